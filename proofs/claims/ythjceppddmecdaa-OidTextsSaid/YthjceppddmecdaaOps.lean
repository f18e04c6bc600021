/- Laws at single operations, the world behind each a letter: []byte(s), string(b), append. No condition but those that each theorem names. -/
import Derived.Test.YthjceppddmecdaaBase
import Derived.Laws.IdiomStrings
import Derived.Laws.BitsAllLaws
set_option linter.unusedSimpArgs false
set_option linter.unusedVariables false
namespace Go.Proofs.Ythjceppddmecdaa
open Go.RowKit

def bv (c : UInt8) : Value := .int .u8 c.toNat
def bvs (l : List UInt8) : List Value := l.map bv
theorem bvs_len (l : List UInt8) : (bvs l).length = l.length := by simp [bvs]
theorem bvs_app (l m : List UInt8) : bvs (l ++ m) = bvs l ++ bvs m := by simp [bvs]
theorem bvs_one (c : UInt8) : bvs [c] = [.int .u8 c.toNat] := rfl
theorem bvs_get (l : List UInt8) (j : Nat) (h : j < l.length) : (bvs l)[j]? = some (.int .u8 (l[j].toNat : Int)) := by simp [bvs, bv, h]
theorem bvs_oneCell (l : List UInt8) : ∀ u ∈ bvs l, u.oneCell' = true := by
  intro u hu
  obtain ⟨c, _, rfl⟩ := List.mem_map.1 hu
  rfl

section
variable {P : Program} {w : World} {ops : Array Oper} {rest : List Oper} {o : Oper} {a : Act} {Q : Exit → Act → World → Prop}

theorem op_bytes (hgd : o.guard = none) (src dst : TypeId) (x : Operand) (ho : o.op = .convert src dst x) (e : TypeId)
    (hs : P.underlying src = some .string) (hd : P.underlying dst = some (.slice e)) (he : P.underlying e = some (.int .u8)) (l : List UInt8) (hx : a.eval x = .string ⟨l.toArray⟩)
    (h : ∀ g c w1, Rd w1 1 (some ⟨g, 0, none⟩) l.length (bvs l) → w.heap.size ≤ g → w.heap.size < w1.heap.size → Ch [] w w1 → wpList P ops Q rest (a.put o.dst (.slice (some ⟨g, 0, none⟩) l.length c)) w1) :
    wpList P ops Q (o :: rest) a w := by
  refine wpList_plain hgd fun K hK => ?_
  have hr := run_bytes_of_string (P := P) w src dst e ⟨l.toArray⟩ hs hd he
  unfold Oper.wp
  simp only [execOp, ho, hx, Sem.run_bind, hr, Result.andThen_ok, Sem.run_pure]
  refine hK _ _ (h _ _ _ ⟨by simp [bvs_len], fun _ => ⟨_, rfl, ?_, fun j u hu => ?_⟩⟩ (Nat.le_refl _) ?_ ?_)
  · simp
  · rw [add_lit, Nat.zero_add]
    have hlt : j < l.length := by have := (List.getElem?_eq_some_iff.1 hu).1; simpa [bvs_len] using this
    show (w.drew.alloc _).cell? ⟨w.drew.heap.size, j, none⟩ = _
    rw [World.cell?_alloc_mark, bytesRow_at _ _ _ (by simpa using hlt)]
    rw [bvs_get l j hlt] at hu
    simpa using hu
  · simp
  · exact (Ch.refl _ _).drew.alloc _

theorem op_string (hgd : o.guard = none) (src dst : TypeId) (x : Operand) (ho : o.op = .convert src dst x) (e : TypeId)
    (hs : P.underlying src = some (.slice e)) (hd : P.underlying dst = some .string) (he : P.underlying e = some (.int .u8)) (l : List UInt8) (A : Option Addr) (n c : Nat)
    (hx : a.eval x = .slice A n c) (hr : Rd w 1 A n (bvs l)) (h : wpList P ops Q rest (a.put o.dst (.string ⟨l.toArray⟩)) w) : wpList P ops Q (o :: rest) a w := by
  refine wpList_plain hgd fun K hK => ?_
  have hn : n = l.length := by have := hr.1; rw [bvs_len] at this; omega
  subst hn
  have hrun : (convert src dst (.slice A l.length c)).run P w = .ok (.string ⟨l.toArray⟩) w := by
    rcases Nat.eq_zero_or_pos l.length with h0 | h0
    · have hl : l = [] := List.eq_nil_of_length_eq_zero h0
      subst hl
      rw [run_convert_bytes_string w src dst e A _ c hs he hd]
      cases A with
      | none => rfl
      | some ad => simp [Conv.bytesToString, loadCells]; rfl
    · obtain ⟨ad, rfl, hb, hc⟩ := hr.2 h0
      exact run_convert_bytes_back w src dst e ad c l hs he hd fun j hj => hc j _ (bvs_get l j hj)
  unfold Oper.wp
  simp only [execOp, ho, hx, Sem.run_bind, hrun, Result.andThen_ok, Sem.run_pure]
  exact hK _ _ h

theorem own_form {base : Nat} {e : TypeId} {size : Nat} {v : Value} {n : Nat} {xs : List Value} (h : w.ownsRow base e size v n xs) : ∃ A c, v = .slice A n c := by
  rcases h.2 with ⟨rfl, rfl⟩ | ⟨g, cap, cur, rfl, _⟩
  · exact ⟨_, _, rfl⟩
  · exact ⟨_, _, rfl⟩
/-- The block of a slice's address. -/
def obl : Option Addr → List Nat
  | some a => [a.block]
  | none => []
theorem obl_own (A : Option Addr) (n c : Nat) : (Value.slice A n c).ownBlock.toList = obl A := by cases A <;> rfl

theorem op_append (hgd : o.guard = none) (s x : Operand) (t : TypeId)
    (ho : o.op = .call { callee := .builtin .append, args := #[s, x], argTypes := #[t, t] })
    (base : Nat) (e : TypeId) (z : Value) (size bytes : Nat) (ht : P.underlying t = some (.slice e)) (hi : (P.info? e).map (fun i => (i.zero, i.size, i.bytes)) = some (some z, size, bytes))
    (hzs : z.cells.size = size) (hsz : 0 < size)
    (B : Option Addr) (n c0 : Nat) (xs : List Value) (hs : a.eval s = .slice B n c0) (hown : w.ownsRow base e size (.slice B n c0) n xs)
    (A : Option Addr) (m c : Nat) (news : List Value) (hx : a.eval x = .slice A m c) (hr : Rd w size A m news) (h1 : ∀ u ∈ news, u.oneCell' = true)
    (hbytes : (n + m) * (bytes + 1) ≤ 140737488355328) (hbase : base ≤ w.heap.size)
    (h : ∀ A' c' w1, w1.ownsRow base e size (.slice A' (n + m) c') (n + m) (xs ++ news) → Ch (obl B) w w1 →
      wpList P ops Q rest (a.put o.dst (.slice A' (n + m) c')) w1) : wpList P ops Q (o :: rest) a w := by
  refine wpList_plain hgd fun K hK => ?_
  obtain ⟨i, hi0, hz, hsize, hby⟩ := info_parts hi
  have hb2 : (n + m) * bytes ≤ 140737488355328 := Nat.le_trans (Nat.mul_le_mul_left _ (Nat.le_succ _)) hbytes
  have h63 : n + m ≤ maxLen := by
    have : (n + m) * 1 ≤ (n + m) * (bytes + 1) := Nat.mul_le_mul_left _ (by omega)
    unfold maxLen; omega
  obtain ⟨v', w', hrun, h2, h3, h4, h5⟩ := run_append_any (P := P) w base t o.type e i z size bytes ht hi0 hz hsize hby hzs hsz _ n xs hown A m c news hr h1 h63 hb2 hbase
  obtain ⟨A', c', rfl⟩ := own_form h2
  unfold Oper.wp execOp
  simp only [ho, resolve, invoke, builtin, Sem.run_bind, Sem.run_pure, Result.andThen_ok, List.map_toArray, List.map_cons, List.map_nil, hs, hx, hrun]
  exact hK _ _ (h A' c' w' h2 (Ch.of_grown h3 fun k hk => by rw [← obl_own B n c0, hk]; simp))
end
theorem own_ch {bs : List Nat} {w wr w1 : World} {e : TypeId} {size : Nat} {A : Option Addr} {k c : Nat} {n : Nat} {xs : List Value} (h : wr.ownsRow w.heap.size e size (.slice A k c) n xs) (hC : Ch bs w wr) (h2 : Ch (obl A) wr w1) : Ch bs w w1 := by
  refine hC.step h2 fun g hg => .inr ?_
  cases A with
  | none => cases hg
  | some a =>
    rcases List.mem_singleton.1 hg with rfl
    exact (h.lt a.block rfl).1

def sv (l : List UInt8) : Value := .string ⟨l.toArray⟩
def svs (ss : List (List UInt8)) : List Value := ss.map sv
theorem u8_wrap (m : Nat) : IntKind.u8.wrap (m : Int) = ((UInt8.ofNat m).toNat : Int) := by
  rw [IntKind.wrap_u8]
  simp
theorem take_snoc_at {α : Type} (l : List α) (k : Nat) (d : α) (h : l[k]? = some d) : l.take (k + 1) = l.take k ++ [d] := by
  obtain ⟨hk, rfl⟩ := List.getElem?_eq_some_iff.1 h
  rw [List.take_succ_eq_append_getElem hk]
/-- Element k of a slice that reads as a list of data: it, its cell, and the beginnings. -/
theorem Rd.elem {α : Type} {w : World} {A : Option Addr} {n k : Nat} {l : List α} {f : α → Value} (h : Rd w 1 A n (l.map f)) (hk : k < n) :
    ∃ ad d, A = some ad ∧ w.cell? (ad.add k) = some (f d) ∧ l[k]? = some d ∧ l.take (k + 1) = l.take k ++ [d] := by
  obtain ⟨ad, u, hA, _, h1, h2⟩ := h.at_ hk
  rw [List.getElem?_map] at h1
  obtain ⟨d, hd, rfl⟩ := Option.map_eq_some_iff.1 h1
  exact ⟨ad, d, hA, h2, hd, take_snoc_at l k d hd⟩
theorem Rd.byte {w : World} {g o n k : Nat} {l : List UInt8} (h : Rd w 1 (some ⟨g, o, none⟩) n (bvs l)) (hk : k < n) :
    ∃ d : UInt8, w.cell? ⟨g, o + k, none⟩ = some (.int .u8 (d.toNat : Int)) ∧ l[k]? = some d ∧ l.take (k + 1) = l.take k ++ [d] := by
  obtain ⟨ad, d, hA, h1, h2, h3⟩ := Rd.elem (f := bv) h hk
  obtain rfl : (⟨g, o, none⟩ : Addr) = ad := by injection hA
  rw [add_lit] at h1
  exact ⟨d, h1, h2, h3⟩
theorem Rd.byte0 {w : World} {g n k : Nat} {l : List UInt8} (h : Rd w 1 (some ⟨g, 0, none⟩) n (bvs l)) (hk : k < n) :
    ∃ d : UInt8, w.cell? ⟨g, k, none⟩ = some (.int .u8 (d.toNat : Int)) ∧ l[k]? = some d ∧ l.take (k + 1) = l.take k ++ [d] := by
  have := h.byte hk
  rwa [Nat.zero_add] at this

theorem or_low (m : Nat) (d : UInt8) (hm : m < 72057594037927936) : bits BinOp.or IntKind.u64 (IntKind.u64.wrap ((m : Int) * 256)) (d.toNat : Int) = ((m * 256 + d.toNat : Nat) : Int) := by
  have hd := d.toNat_lt
  have e1 : (m : Int) * 256 = ((m * 256 : Nat) : Int) := by omega
  rw [e1, IntWalk.u64_in _ (by omega), u64_or_nat _ _ (by omega) (by omega)]
  have e2 : m * 256 = m <<< 8 := by rw [Nat.shiftLeft_eq]
  rw [e2, ← Nat.shiftLeft_add_eq_or_of_lt (by omega)]
theorem ret_int {k : IntKind} {a b : Int} (h : a = b) : Ending.returned (.int k a) = .returned (.int k b) := by rw [h]
theorem ret_str {a b : List UInt8} (h : a = b) : Ending.returned (.string ⟨a.toArray⟩) = .returned (.string ⟨b.toArray⟩) := by rw [h]

theorem own_lit {w : World} {e : TypeId} {cs : Array Value} {n size : Nat} {base g : Nat} (h : Blk w g e cs) (hb : base ≤ g) (hm : n ≤ maxLen) (hs : cs.size = n * size) :
    w.ownsRow base e size (.slice (some ⟨g, 0, none⟩) n n) n cs.toList :=
  ⟨by simpa using hs, .inr ⟨g, n, cs, rfl, hb, h, Nat.le_refl _, hm, hs, List.take_of_length_le (by simp [hs])⟩⟩
end Go.Proofs.Ythjceppddmecdaa
