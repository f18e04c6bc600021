/- What the laws share, part 5 (Ref1p, Ref1o, OidO, OidA, MerW, MerR, LetS). No condition but those that each theorem names. -/
import Derived.Test.YtlhedbjjlomniaaW2
import Derived.Test.YtlhedbjjlomniaaW3
import Derived.Test.YtlhedbjjlomniaaW4
import Derived.Laws.Externs
import Derived.Lib.Bytealg
import Derived.Lib.UnsafeStr
set_option linter.unusedSimpArgs false
set_option linter.unusedVariables false
namespace Go.Proofs.Ytlhedbjjlomniaa
open Go.RowKit
attribute [local go_sem] extract_mid extract_drop bget bsize wrap64_u8 i64_u8 u64_u8 bappend
theorem zeros_fact2 (n : Nat) : (n + 1 + zerosN n) % 64 = 56 ∧ zerosN n < 64 ∧ ∀ j, j < zerosN n → (n + 1 + j) % 64 ≠ 56 := by
  unfold zerosN
  refine ⟨by omega, by omega, fun j hj => by omega⟩
theorem u8_same (a b : Nat) (h : a % 256 = b % 256) : UInt8.ofNat a = UInt8.ofNat b := by
  apply UInt8.toNat_inj.1
  simpa using h
theorem len_words (n : Nat) (h : n ≤ 1000000000000000) : wbytes (UInt32.ofNat (n / 536870912)) ++ wbytes (UInt32.ofNat (n % 536870912 * 8)) = lenBytes n := by
  have h1 : (UInt32.ofNat (n / 536870912)).toNat = n / 536870912 := by simp; omega
  have h2 : (UInt32.ofNat (n % 536870912 * 8)).toNat = n % 536870912 * 8 := by simp; omega
  have hr : List.range 8 = [0, 1, 2, 3, 4, 5, 6, 7] := by decide
  unfold wbytes lenBytes
  rw [h1, h2, hr]
  simp only [List.map_cons, List.map_nil, List.cons_append, List.nil_append, List.cons.injEq, and_true]
  refine ⟨u8_same _ _ ?_, u8_same _ _ ?_, u8_same _ _ ?_, u8_same _ _ ?_, u8_same _ _ ?_, u8_same _ _ ?_, u8_same _ _ ?_, u8_same _ _ ?_⟩ <;> (simp only [Nat.reducePow, Nat.reduceSub]; omega)
theorem wrap_w32 (x : UInt32) : IntKind.u32.wrap (w32 x) = w32 x := by have := w32_lt x; exact IntWalk.u32_in _ (by omega)
theorem mod_w32 (x : UInt32) : w32 x % 4294967296 = w32 x := by have := w32_lt x; omega
attribute [local go_sem] wrap_w32 mod_w32
set_option maxRecDepth 100000 in
set_option maxHeartbeats 4000000 in
theorem padded_star {F : List SProp} (l : List UInt8) (hl : l.length ≤ 140737488355000) (w : World) (hM : Star F w) :
    Calls Try.prog 112 #[.string ⟨l.toArray⟩] w fun r w' => r = .returned (.string ⟨(pad l).toArray⟩) ∧ Star F w' := by
  obtain ⟨x1, e1⟩ : ∃ x, x = UInt32.ofNat (l.length / 536870912) := ⟨_, rfl⟩
  obtain ⟨x2, e2⟩ : ∃ x, x = UInt32.ofNat (l.length % 536870912 * 8) := ⟨_, rfl⟩
  have q1 : (l.length : Int) / 536870912 = w32 x1 := by rw [e1]; unfold w32; simp; omega
  have q2 : (l.length : Int) % 536870912 * 8 = w32 x2 := by rw [e2]; unfold w32; simp; omega
  have HW : Hid (wbytes x1 ++ wbytes x2 = lenBytes l.length) := by show _ = _; rw [e1, e2]; exact len_words _ (by omega)
  have hZ := zeros_fact2 l.length
  obtain ⟨Z, hZd⟩ : ∃ Z, Z = zerosN l.length := ⟨_, rfl⟩
  rw [← hZd] at hZ
  have HZ1 := Lib.hid hZ.1
  have HZ2 := Lib.hid hZ.2.2
  have hZ64 := hZ.2.1
  have HP : Hid (pad l = l ++ [128] ++ List.replicate Z 0 ++ lenBytes l.length) := by show _ = _; rw [hZd]; simp [pad]
  clear hZ hZd e1 e2
  have Q1 := Lib.hid q1
  have Q2 := Lib.hid q2
  clear q1 q2
  go_enter Try.func112, Try.ntmps112
  go_wp2_with fail
  go_loopw [4, 5] (fun v i wr => ∃ (j : Nat) (X : List UInt8), j ≤ Z ∧ i = .int .i64 j ∧ v = .string ⟨X.toArray⟩ ∧ Hid (X = l ++ [128] ++ List.replicate j 0) ∧ Star F wr) (fun _ i _ => 64 - (intOf i).toNat)
  case atStart => exact ⟨0, l ++ [128], by omega, rfl, rfl, (by show _ = _; simp), hM⟩
  case round =>
    clear hM
    obtain ⟨j, X, hj, rfl, rfl, hX, hM⟩ := hrel
    have hXl : X.length = l.length + 1 + j := by rw [hX.out]; simp; omega
    have hXb : X.length ≤ 140737488356000 := by omega
    by_cases hlt : j < Z
    · have hne : X.length % 64 ≠ 56 := by rw [hXl]; exact HZ2.out j hlt
      have hne1 : (((X.length : Int) % 64) != 56) = true := by simp; omega
      have hne2 : (((X.length : Int) % 64) == 56) = false := by simp; omega
      have j64 : j < 64 := by omega
      clear hne hXl
      go_wp2_with fail
      go_roundw
      case rel => exact ⟨j + 1, X ++ [0], by omega, by go_num, rfl, (by show _ = _; rw [hX.out, List.replicate_succ', List.append_assoc]), hM⟩
      case measure => simp [intOf]; omega
    · obtain rfl : j = Z := by omega
      have heq : X.length % 64 = 56 := by rw [hXl]; exact HZ1.out
      have hne1 : (((X.length : Int) % 64) != 56) = false := by simp; omega
      have hne2 : (((X.length : Int) % 64) == 56) = true := by simp; omega
      clear heq hXl
      have w1 : (wbytes x1).length ≤ 4 := by simp [wbytes]
      have w2 : (wbytes x2).length ≤ 4 := by simp [wbytes]
      have q1 := Q1.out
      have q2 := Q2.out
      go_wp2_with (first | (go_at_call 104; have hM0 := hM; clear hM; (first | (with_reducible refine (wbytes_star x1 _ hM0).mono ?_) | fail); clear hM0; rintro _ w ⟨rfl, hM⟩) | (go_at_call 104; have hM0 := hM; clear hM; (first | (with_reducible refine (wbytes_star x2 _ hM0).mono ?_) | fail); clear hM0; rintro _ w ⟨rfl, hM⟩))
      go_ret
      exact ⟨ret_str (by rw [HP.out, ← HW.out, ← hX.out]), hM⟩
end Go.Proofs.Ytlhedbjjlomniaa
set_option linter.unusedSimpArgs false
set_option linter.unusedVariables false
namespace Go.Proofs.Ytlhedbjjlomniaa
open Go.RowKit
attribute [local go_sem] extract_mid extract_drop bget bsize wrap64_u8 i64_u8 u64_u8 bappend
theorem mixN_zero (s : W8) (l : List UInt8) : mixN s 0 l = s := rfl
theorem bytes_take (s : W8) (k : Nat) (x : UInt32) (h : s.list[k]? = some x) : (s.list.take (k + 1)).flatMap wbytes = (s.list.take k).flatMap wbytes ++ wbytes x := by
  rw [take_snoc_at _ _ _ h]; simp
theorem flat4 (l : List UInt32) : (l.flatMap wbytes).length = 4 * l.length := by
  induction l with
  | nil => rfl
  | cons x l ih => rw [List.flatMap_cons, List.length_append, ih, List.length_cons]; simp [wbytes]; omega
attribute [local irreducible] mix mixN pad
set_option maxRecDepth 100000 in
set_option maxHeartbeats 4000000 in
theorem rOf_star {F : List SProp} (l : List UInt8) (hl : l.length ≤ 140737488355000) (w : World) (hM : Star F w) :
    Calls Try.prog 103 #[.string ⟨l.toArray⟩] w fun r w' => r = .returned (.string ⟨(sha l).toArray⟩) ∧ Star F w' := by
  have hpl := pad_len l
  obtain ⟨m, hm⟩ : ∃ m, m = (l.length + 8) / 64 + 1 := ⟨_, rfl⟩
  have hsha : sha l = (mixN iv0 m (pad l)).bytes := by rw [hm]; rfl
  have hmb : m ≤ 2199023256000 := by omega
  rw [← hm] at hpl
  have HP := Lib.hid hpl
  have HS := Lib.hid hsha
  clear hpl hm hsha
  go_enter Try.func103, Try.ntmps103
  go_wp2_with (first | (go_at_call 112; have hM0 := hM; clear hM; (first | (with_reducible refine (padded_star l hl _ hM0).mono ?_) | fail); clear hM0; rintro _ w ⟨rfl, hM⟩) | (first | (have hM0 := hM; clear hM; refine BigFrame.wpList_want (by rfl) fun K hK => ws_slice_row hM0 (n := 8) rfl 168 1 (.int .u32 0) [.int .u32 1779033703, .int .u32 3144134277, .int .u32 1013904242, .int .u32 2773480762, .int .u32 1359893119, .int .u32 2600822924, .int .u32 528734635, .int .u32 1541459225] Try.underlying178 (by kernel_rfl) rfl (by simp [Value.cells, iv, sv, bv]) (by rfl) (by decide) (cs := wvs iv0.list) (by rfl) (fun g1 w hM => hK _ _ ?_); clear hM0 hK K) | fail))
  obtain ⟨P, hP⟩ : ∃ P, P = pad l := ⟨_, rfl⟩
  rw [← hP] at HP HS ⊢
  have hPb : P.length ≤ 140737488384000 := by have := HP.out; omega
  clear hP
  go_loopw [4, 5] (fun h i wr => ∃ (k q : Nat) (A : Option Addr) (c : Nat), k ≤ m ∧ q ≤ P.length ∧ Hid (q = 64 * k) ∧ i = .int .i64 q ∧ h = .slice A 8 c ∧ Star (rowE 1 A 8 (wvs (mixN iv0 k P).list) :: F) wr) (fun _ i _ => P.length - (intOf i).toNat)
  case atStart => exact ⟨0, 0, _, _, by omega, by omega, rfl, rfl, rfl, by rw [mixN_zero]; exact hM⟩
  case round =>
    clear hM
    obtain ⟨k, q, A, c, hk, hqP, hq, rfl, rfl, hM⟩ := hrel
    by_cases hlt : k < m
    · have hq64 : q + 64 ≤ P.length := by have h1 := hq.out; have h2 := HP.out; omega
      have hqlt : q < P.length := by omega
      have HBL : Hid (((P.take (q + 64)).drop q).length = 64) := by show _ = _; simp; omega
      have HB : Hid (mixN iv0 (k + 1) P = mix (mixN iv0 k P) ((P.take (q + 64)).drop q)) := by
        show _ = _
        rw [mixN_succ_last, List.drop_take, ← hq.out, Nat.add_sub_cancel_left]
      go_wp2_with (first | (go_at_call 113; have hM0 := hM; clear hM; (first | (with_reducible refine (mixed_star (mixN iv0 k P) ((P.take (q + 64)).drop q) HBL.out A c _ hM0 (by (repeat (first | assumption | (with_reducible exact mZ) | apply mS)); first | done | fail)).mono ?_) | fail); clear hM0; rintro _ w ⟨A2, c2, rfl, hM⟩))
      go_roundw
      case rel => exact ⟨k + 1, q + 64, A2, c2, by omega, by omega, (by show _ = _; have := hq.out; omega), by go_num, rfl, by rw [HB.out]; exact hM.sel (by repeat (first | (with_reducible exact Sel.refl) | (with_reducible exact Take.head) | (with_reducible apply Take.tail) | (with_reducible apply Sel.cons) | (with_reducible apply Sel.drop)))⟩
      case measure => simp [intOf]; omega
    · obtain rfl : k = m := by omega
      have hqe : ¬ q < P.length := by have h1 := hq.out; have h2 := HP.out; omega
      obtain ⟨s, hs⟩ : ∃ s, s = mixN iv0 k P := ⟨_, rfl⟩
      rw [← hs] at hM HS
      clear hs
      obtain ⟨ad, rfl⟩ : ∃ ad, A = some ad := by
        have hr : Rd wr 1 A 8 (wvs s.list) := hM.row (by simp)
        obtain ⟨ad, h, _⟩ := hr.2 (by omega)
        exact ⟨ad, h⟩
      go_wp2_with fail
      obtain ⟨wq, rfl⟩ : ∃ wq : World, wq = wr := ⟨_, rfl⟩
      go_loopw [6, 27] (fun out i wr => ∃ (j : Nat) (X : List UInt8), j ≤ 8 ∧ i = .int .i64 j ∧ out = .string ⟨X.toArray⟩ ∧ Hid (X = (s.list.take j).flatMap wbytes) ∧ Star (rowE 1 (some ad) 8 (wvs s.list) :: F) wr) (fun _ i _ => 8 - (intOf i).toNat)
      case atStart => exact ⟨0, [], by omega, rfl, rfl, rfl, hM⟩
      case round =>
        clear hM
        obtain ⟨j, X, hj, rfl, rfl, hX, hM⟩ := hrel
        by_cases hlt : j < 8
        · obtain ⟨x, hx⟩ : ∃ x, s.list[j]? = some x := ⟨_, List.getElem?_eq_getElem (by show j < 8; exact hlt)⟩
          have hv := wvs_get _ _ _ hx
          have hT := bytes_take s j x hx
          have h4 := flat4 (s.list.take j)
          have h5 : (s.list.take j).length ≤ 8 := by have := List.length_take_le j s.list; simp; omega
          have h6 : X.length ≤ 32 := by rw [hX.out]; omega
          have h7 : (wbytes x).length ≤ 4 := by simp [wbytes]
          have HT := Lib.hid hT
          clear hT h4 h5 hx
          go_wp2_with (first | (first | (refine BigFrame.wpList_want (by rfl) fun K hK => ws_rowload rfl rfl (by first | (apply Star.row hM; (repeat (first | assumption | (with_reducible exact mZ) | apply mS)); done) | (apply Star.own hM; (repeat (first | assumption | (with_reducible exact mZ) | apply mS)); done) | (apply Star.arr hM; (focus ((repeat (first | assumption | (with_reducible exact mZ) | apply mS)); done)); assumption)) (by assumption) (by kernel_rfl) (hK _ _ ?_); clear hK K) | fail) | (go_at_call 104; have hM0 := hM; clear hM; (first | (with_reducible refine (wbytes_star x _ hM0).mono ?_) | fail); clear hM0; rintro _ w ⟨rfl, hM⟩))
          go_roundw
          case rel => exact ⟨j + 1, X ++ wbytes x, by omega, by go_num, rfl, (by show _ = _; rw [HT.out, hX.out]), hM⟩
          case measure => simp [intOf]; omega
        · obtain rfl : j = 8 := by omega
          go_wp2_with fail
          go_ret
          exact ⟨ret_str (by rw [HS.out, hX.out, List.take_of_length_le (by show 8 ≤ 8; omega)]; rfl), hM.sel (by repeat (first | (with_reducible exact Sel.refl) | (with_reducible exact Take.head) | (with_reducible apply Take.tail) | (with_reducible apply Sel.cons) | (with_reducible apply Sel.drop)))⟩
end Go.Proofs.Ytlhedbjjlomniaa
set_option linter.unusedSimpArgs false
set_option linter.unusedVariables false
namespace Go.Proofs.Ytlhedbjjlomniaa
open Go.RowKit
attribute [local go_sem] extract_mid extract_drop bget bsize wrap64_u8 i64_u8 u64_u8 bappend
def be4 (n : Nat) : List UInt8 := (List.range 4).map fun j => UInt8.ofNat (n / 256 ^ (3 - j))
theorem be4_len (n : Nat) : (be4 n).length = 4 := by simp [be4]
theorem be4_at (n j : Nat) (h : j < 4) : (be4 n)[j]? = some (UInt8.ofNat (n / 256 ^ (3 - j))) := by simp [be4, h]
theorem be4_word (n : Nat) : be4 n = wbytes (UInt32.ofNat n) := by
  have e1 : (UInt32.ofNat n).toNat = n % 4294967296 := by simp
  simp only [be4, wbytes, e1, show List.range 4 = [0, 1, 2, 3] from rfl, List.map_cons, List.map_nil, List.cons.injEq, and_true]
  refine ⟨u8_same _ _ ?_, u8_same _ _ ?_, u8_same _ _ ?_, u8_same _ _ ?_⟩ <;> (simp only [Nat.reducePow, Nat.reduceSub]; omega)
/-- What the name of an object is the sum of. -/
def crvH (k : UInt8) (n : Nat) : List UInt8 := [99, 114, 118, k] ++ be4 n
theorem crvH_len (k : UInt8) (n : Nat) : (crvH k n).length = 8 := by simp [crvH, be4_len]
/-- The name of an object. -/
def onm (k : UInt8) (s : List UInt8) : List UInt8 := sha (crvH k s.length ++ s)
theorem onm_len (k : UInt8) (s : List UInt8) : (onm k s).length = 32 := sha_len _
theorem shr8i_nat (x j : Nat) : (x : Int) / 2 ^ (8 * (3 - (j : Int))).toNat = ((x / 256 ^ (3 - j) : Nat) : Int) := by
  rw [show (8 * (3 - (j : Int))).toNat = 8 * (3 - j) by omega, Int.natCast_ediv]
  congr 1
  rw [Int.natCast_pow, show ((256 : Nat) : Int) = 2 ^ 8 by decide, ← Int.pow_mul]
theorem ex_shr8i {P : Program} {w : World} {o : Oper} {a : Act} {t ty : TypeId} {x y : Operand} (ho : o.op = .binOp .shr t x y ty) {n j : Nat} (hx : a.eval x = .int .i64 (n : Int)) (hy : a.eval y = .int .i64 (8 * (3 - (j : Int)))) (hj : j ≤ 3) {z : Nat} (hz : n / 256 ^ (3 - j) = z) :
    (execOp a.eval o).run P w = .ok (.value (.int .i64 (z : Int))) w := by
  have h0 : (0 : Int) ≤ 8 * (3 - (j : Int)) := by omega
  have h9 := shr8i_nat n j
  rw [hz] at h9
  unfold execOp
  simp only [ho, hx, hy]
  simp [go_sem, h0, h9]
set_option maxRecDepth 100000 in
set_option maxHeartbeats 4000000 in
theorem oof_star_b {F : List SProp} (kd : UInt8) (ps : List (List UInt8)) (As : Option Addr) (np cp : Nat) (hb : (cat ps).length ≤ 140737488352000) (hnp : np ≤ 1000) (w : World) (hM : Star F w) (hF : rowE 1 As np (svs ps) ∈ F) :
    Calls Try.prog 37 #[.int .i64 kd.toNat, .slice As np cp] w fun r w' => r = .returned (.agg (bvs (onm kd (cat ps))).toArray) ∧ Star F w' := by
  have hl := svs_row (hM.row hF)
  have HB := Lib.hid (fun k => cat_take_all ps k)
  have HP := Lib.hid (fun x hx => cat_mem_le ps x hx)
  have HBB := Lib.hid hb
  have HL := Lib.hid hl
  have hnm := onm_len kd (cat ps)
  have HNM := Lib.hid hnm
  have hkd : IntKind.u8.wrap (kd.toNat : Int) = (kd.toNat : Int) := u8_u8 kd
  clear hnm
  have HSM : ∀ (gs : Nat) (A : Option Addr) (n c : Nat) {L R1 R2 : List SProp}, Take (cellsE gs 173 (shCells ([] ++ cat [crvH kd (cat ps).length] ++ cat ps) A n c)) L R1 → Take (tailE 5 1 A n c (bvs (rest ([] ++ cat [crvH kd (cat ps).length] ++ cat ps)))) R1 R2 → ∀ w : World, Star L w → Calls Try.prog 82 #[.pointer (some ⟨gs, 0, none⟩)] w fun r w' => r = .returned (.agg (bvs (onm kd (cat ps))).toArray) ∧ Star L w' := fun gs A n c _ _ _ h1 h2 w hM => by
    have := sum2 gs _ h1 h2 (by simp [cat, crvH_len]; omega) w hM
    rwa [List.nil_append, cat_one] at this
  obtain ⟨N, hN⟩ : ∃ N, N = (cat ps).length := ⟨_, rfl⟩
  rw [← hN] at HSM hb
  have HN := Lib.hid hN
  clear hN
  generalize onm kd (cat ps) = nm at HNM HSM ⊢
  go_enter Try.func37, Try.ntmps37
  go_wp2_with (first | (first | (have hM0 := hM; clear hM; refine BigFrame.wpList_want (by rfl) fun K hK => ws_alloc hM0 (t := 23) rfl (bvs z32).toArray info_id (fun g4 w hM => hK _ _ ?_); clear hM0 hK K) | fail))
  go_loopw [5, 12] (fun n i wr => ∃ k : Nat, k ≤ np ∧ i = .int .i64 k ∧ n = .int .i64 ((cat (ps.take k)).length : Nat) ∧ Star (cellsE g4 23 (bvs z32).toArray :: F) wr) (fun _ i _ => np - (intOf i).toNat)
  case atStart => exact ⟨0, by omega, rfl, rfl, hM⟩
  case round =>
    clear hM
    obtain ⟨k, hk, rfl, rfl, hM⟩ := hrel
    have hbk : (cat (ps.take k)).length ≤ 140737488352000 := by have h1 := HB.out k; have h2 := HBB.out; omega
    by_cases hlt : k < np
    · obtain ⟨ad, d, rfl, hv, hg, ht⟩ := hM.elemS (A := As) (n := np) (l := ps) (by (repeat (first | assumption | (with_reducible exact mZ) | apply mS)); first | done | fail) hlt
      have hd : d.length ≤ 140737488352000 := by have h1 := HP.out d (List.mem_of_getElem? hg); have h2 := HBB.out; omega
      have HT : Hid ((cat (ps.take (k + 1))).length = (cat (ps.take k)).length + d.length) := by show _ = _; rw [ht, cat_snoc, List.length_append]
      clear ht hg
      go_wp2_with (first | (first | (refine BigFrame.wpList_want (by rfl) fun K hK => ws_rowload rfl rfl (by first | (apply Star.row hM; (repeat (first | assumption | (with_reducible exact mZ) | apply mS)); done) | (apply Star.own hM; (repeat (first | assumption | (with_reducible exact mZ) | apply mS)); done) | (apply Star.arr hM; (focus ((repeat (first | assumption | (with_reducible exact mZ) | apply mS)); done)); assumption)) (by assumption) (by kernel_rfl) (hK _ _ ?_); clear hK K) | fail))
      go_roundw
      case rel => exact ⟨k + 1, by omega, by go_num, by rw [HT.out]; go_num, hM⟩
      case measure => simp [intOf]; omega
    · obtain rfl : k = np := by omega
      have HT : Hid ((cat (ps.take k)).length = N) := by show _ = _; rw [HN.out, List.take_of_length_le (by rw [HL.out]; omega)]
      rw [HT.out]
      clear hbk
      have hltI : ¬ ((k : Int) < (k : Int)) := by omega
      go_wp2_with (first | (first | (have hM0 := hM; clear hM; refine BigFrame.wpList_want (by rfl) fun K hK => ws_slice_tail hM0 (n := 4) rfl 5 1 (.int .u8 0) [bv 99, bv 114, bv 118, bv kd] Try.underlying80 (by kernel_rfl) rfl (by simp [Value.cells, iv, sv, bv]) (by rfl) (by decide) (by decide) (cs := bvs [99, 114, 118, kd]) (by rfl) (fun gh w hM => hK _ _ ?_); clear hM0 hK K) | fail))
      obtain ⟨wq, rfl⟩ : ∃ wq : World, wq = w := ⟨_, rfl⟩
      go_loopw [8, 9] (fun h i wx => ∃ (j m : Nat) (A : Option Addr) (c : Nat), j ≤ 4 ∧ m = 4 + j ∧ i = .int .i64 (3 - (j : Int)) ∧ h = .slice A m c ∧ Star (tailE 5 1 A m c (bvs ([99, 114, 118, kd] ++ (be4 N).take j)) :: cellsE g4 23 (bvs z32).toArray :: F) wx) (fun _ i _ => (intOf i + 1).toNat)
      case atStart => exact ⟨0, 4, _, _, by omega, rfl, rfl, rfl, by rw [List.take_zero, List.append_nil]; exact hM⟩
      case round =>
        clear hM
        obtain ⟨j, m, A, c, hj, hm, rfl, rfl, hM⟩ := hrel
        have hmb : m ≤ 8 := by omega
        have HM := Lib.hid hm
        clear hm
        by_cases hj4 : j < 4
        · have hi0 : (0 : Int) ≤ 3 - (j : Int) := by omega
          obtain ⟨d, hd⟩ : ∃ d, d = UInt8.ofNat (N / 256 ^ (3 - j)) := ⟨_, rfl⟩
          obtain ⟨z, hz⟩ : ∃ z, N / 256 ^ (3 - j) = z := ⟨_, rfl⟩
          have hg := be4_at N j hj4
          have hdz : IntKind.u8.wrap (z : Int) = (d.toNat : Int) := by rw [hd, hz, ← u8_wrap]
          rw [← hd] at hg
          have HT := Lib.hid (take_snoc_at _ _ _ hg)
          have HZ := Lib.hid hz
          clear hg hd hz
          go_wp2_with (first | (refine BigFrame.wpList_want (by rfl) fun K hK => ws_of_ex (ex_shr8i rfl rfl rfl (by omega) HZ.out) (hK _ _ ?_); clear hK K) | (first | (have hM0 := hM; clear hM; refine BigFrame.wpList_want (by rfl) fun K hK => ws_slice_row hM0 (n := 1) rfl 5 1 (.int .u8 0) [bv d] Try.underlying80 (by kernel_rfl) rfl (by simp [Value.cells, iv, sv, bv]) (by rfl) (by decide) (cs := bvs [d]) (by rfl) (fun gr w hM => hK _ _ ?_); clear hM0 hK K) | fail) | (first | (have hM0 := hM; clear hM; refine BigFrame.wpList_want (by rfl) fun K hK => ws_app hM0 rfl rfl 5 ((.int .u8 0)) 1 1 Try.underlying80 (by kernel_rfl) (by rfl) (by (repeat (first | (with_reducible exact Take.head) | apply Take.tail)); first | done | fail) (src_row Try.underlying80 _ (hM0.row (by (repeat (first | assumption | (with_reducible exact mZ) | apply mS)); first | done | fail)) (bvs_oneCell _)) ((by clear hdz; omega)) (fun A1 c1 w hM => hK _ _ ?_); clear hM0 hK K; (try simp only [Nat.zero_add, Nat.add_zero, List.nil_append, List.append_nil, ← bvs_app] at hM)) | fail))
          go_roundw
          case rel => exact ⟨j + 1, m + 1, A1, c1, by omega, by have := HM.out; omega, by (congr 1; omega), rfl, by rw [HT.out, ← List.append_assoc]; exact hM.sel (by repeat (first | (with_reducible exact Sel.refl) | (with_reducible exact Take.head) | (with_reducible apply Take.tail) | (with_reducible apply Sel.cons) | (with_reducible apply Sel.drop)))⟩
          case measure => simp [intOf]; omega
        · obtain rfl : j = 4 := by omega
          obtain rfl : m = 8 := by have := HM.out; omega
          have HF : Hid ([99, 114, 118, kd] ++ (be4 N).take 4 = crvH kd N) := by show _ = _; rw [List.take_of_length_le (by rw [be4_len]; omega)]; rfl
          rw [HF.out] at hM
          replace hM := hM.tail_freeze
          have HCL := Lib.hid (crvH_len kd N)
          go_wp2_with fail
          (refine region_RS ([rowE 1 A 8 (bvs (crvH kd N))]) [] (by kernel_rfl) hM ?_; clear hM; change RS _ _ _ _ _ _ 9 (Array.replicate 9 false) _ _; refine RS_take (i := 1) rfl (by decide +kernel) (fun _ _ _ h => h) (by first | (intro x hx; (repeat (first | exact hx | apply mS)); done) | ((repeat (refine List.forall_mem_cons.2 ⟨(by (repeat (first | assumption | (with_reducible exact mZ) | apply mS)); first | done | fail), ?_⟩)); intro x hx; first | (cases hx; done) | ((repeat (first | exact hx | apply mS)); done))) (stab_pure (by rfl) (fun w => (by go_simp; try with_reducible rfl))) ?_; simp only [Act.put, List.setIfInBounds_toArray, List.set_cons_zero, List.set_cons_succ]; refine RS_take (i := 2) rfl (by decide +kernel) (fun _ _ _ h => h) (by first | (intro x hx; (repeat (first | exact hx | apply mS)); done) | ((repeat (refine List.forall_mem_cons.2 ⟨(by (repeat (first | assumption | (with_reducible exact mZ) | apply mS)); first | done | fail), ?_⟩)); intro x hx; first | (cases hx; done) | ((repeat (first | exact hx | apply mS)); done))) (stab_read (by rfl) (fun L w hL hM => (ex_string (l := crvH kd N) rfl 5 Try.underlying80 Try.underlying9 Try.underlying5 rfl (hM.row (hL _ (by (repeat (first | assumption | (with_reducible exact mZ) | apply mS)); first | done | fail)))))) ?_; simp only [Act.put, List.setIfInBounds_toArray, List.set_cons_zero, List.set_cons_succ]; refine RS_take (i := 5) rfl (by decide +kernel) (fun _ _ _ h => h) (by first | (intro x hx; (repeat (first | exact hx | apply mS)); done) | ((repeat (refine List.forall_mem_cons.2 ⟨(by (repeat (first | assumption | (with_reducible exact mZ) | apply mS)); first | done | fail), ?_⟩)); intro x hx; first | (cases hx; done) | ((repeat (first | exact hx | apply mS)); done))) (stab_pure (by rfl) (fun w => (by go_simp; try with_reducible rfl))) ?_; simp only [Act.put, List.setIfInBounds_toArray, List.set_cons_zero, List.set_cons_succ]; refine RS_ready (rs := [0, 3]) (by decide +kernel) (by simp) (.inl (by first | (intro x hx; (repeat (first | exact hx | apply mS)); done) | ((repeat (refine List.forall_mem_cons.2 ⟨(by (repeat (first | assumption | (with_reducible exact mZ) | apply mS)); first | done | fail), ?_⟩)); intro x hx; first | (cases hx; done) | ((repeat (first | exact hx | apply mS)); done)))) ?_; refine (List.forall_mem_cons.2 ⟨?_, (List.forall_mem_cons.2 ⟨?_, (fun _ h => by cases h)⟩)⟩); rotate_right 1; (focus (refine RS_way (i := 3) rfl (by rfl) (fun w K hM0 hK => ?_); refine ws_slice_row hM0 (n := 1) rfl 9 1 (.string ByteArray.empty) [sv (crvH kd N)] Try.underlying61 (by kernel_rfl) rfl (by simp [Value.cells, iv, sv, bv]) (by rfl) (by decide) (cs := svs [crvH kd N]) (by rfl) (fun gr w hM => hK _ _ _ hM ?_); clear hM hM0 hK K; simp only [Act.put, List.setIfInBounds_toArray, List.set_cons_zero, List.set_cons_succ]; refine RS_one (i := 0) (by decide +kernel) rfl (by rfl) (.inl (by first | (intro x hx; (repeat (first | exact hx | apply mS)); done) | ((repeat (refine List.forall_mem_cons.2 ⟨(by (repeat (first | assumption | (with_reducible exact mZ) | apply mS)); first | done | fail), ?_⟩)); intro x hx; first | (cases hx; done) | ((repeat (first | exact hx | apply mS)); done)))) (fun w K hM0 hK => ?_); refine ws_call (by go_simp; try with_reducible rfl) (new_star w hM0) (fun r w2 hR => ?_); obtain ⟨gs, rfl, hM⟩ := hR; refine ⟨_, rfl, hK _ _ _ hM ?_⟩; clear hM hM0 hK K; simp only [Act.put, List.setIfInBounds_toArray, List.set_cons_zero, List.set_cons_succ]; refine RS_one (i := 4) (by decide +kernel) rfl (by rfl) (.inl (by first | (intro x hx; (repeat (first | exact hx | apply mS)); done) | ((repeat (refine List.forall_mem_cons.2 ⟨(by (repeat (first | assumption | (with_reducible exact mZ) | apply mS)); first | done | fail), ?_⟩)); intro x hx; first | (cases hx; done) | ((repeat (first | exact hx | apply mS)); done)))) (fun w K hM0 hK => ?_); refine ws_call (by go_simp; try with_reducible rfl) (write2 (As := some ⟨gr, 0, none⟩) (np := 1) (cp := 1) gs [] [crvH kd N] (by (repeat (first | (with_reducible exact Take.head) | apply Take.tail)); first | done | fail) (by (repeat (first | (with_reducible exact Take.head) | apply Take.tail)); first | done | fail) (by (repeat (first | assumption | (with_reducible exact mZ) | apply mS)); first | done | fail) (by simp [HCL.out]) (by omega) (by simp) w hM0) (fun r w2 hR => ?_); obtain ⟨A1, n1, c1, rfl, hM⟩ := hR; refine ⟨_, rfl, hK _ _ _ hM ?_⟩; clear hM hM0 hK K; simp only [Act.put, List.setIfInBounds_toArray, List.set_cons_zero, List.set_cons_succ]; refine RS_one (i := 6) (by decide +kernel) rfl (by rfl) (.inl (by first | (intro x hx; (repeat (first | exact hx | apply mS)); done) | ((repeat (refine List.forall_mem_cons.2 ⟨(by (repeat (first | assumption | (with_reducible exact mZ) | apply mS)); first | done | fail), ?_⟩)); intro x hx; first | (cases hx; done) | ((repeat (first | exact hx | apply mS)); done)))) (fun w K hM0 hK => ?_); refine ws_call (by go_simp; try with_reducible rfl) (write2_b (As := As) (np := k) (cp := cp) gs ([] ++ cat [crvH kd N]) ps (by (repeat (first | (with_reducible exact Take.head) | apply Take.tail)); first | done | fail) (by (repeat (first | (with_reducible exact Take.head) | apply Take.tail)); first | done | fail) (by (repeat (first | assumption | (with_reducible exact mZ) | apply mS)); first | done | fail) (by have h2 := HBB.out; simp [cat, HCL.out]; omega) (by omega) w hM0) (fun r w2 hR => ?_); obtain ⟨A2, n2, c2, rfl, hM⟩ := hR; refine ⟨_, rfl, hK _ _ _ hM ?_⟩; clear hM hM0 hK K; simp only [Act.put, List.setIfInBounds_toArray, List.set_cons_zero, List.set_cons_succ]; refine RS_one (i := 7) (by decide +kernel) rfl (by rfl) (.inl (by first | (intro x hx; (repeat (first | exact hx | apply mS)); done) | ((repeat (refine List.forall_mem_cons.2 ⟨(by (repeat (first | assumption | (with_reducible exact mZ) | apply mS)); first | done | fail), ?_⟩)); intro x hx; first | (cases hx; done) | ((repeat (first | exact hx | apply mS)); done)))) (fun w K hM0 hK => ?_); refine ws_call (by go_simp; try with_reducible rfl) (HSM gs A2 n2 c2 (by (repeat (first | (with_reducible exact Take.head) | apply Take.tail)); first | done | fail) (by (repeat (first | (with_reducible exact Take.head) | apply Take.tail)); first | done | fail) w hM0) (fun r w2 hR => ?_); obtain ⟨rfl, hM⟩ := hR; refine ⟨_, rfl, hK _ _ _ hM ?_⟩; clear hM hM0 hK K; simp only [Act.put, List.setIfInBounds_toArray, List.set_cons_zero, List.set_cons_succ]; refine RS_one (i := 8) (by decide +kernel) rfl (by rfl) (.inl (by first | (intro x hx; (repeat (first | exact hx | apply mS)); done) | ((repeat (refine List.forall_mem_cons.2 ⟨(by (repeat (first | assumption | (with_reducible exact mZ) | apply mS)); first | done | fail), ?_⟩)); intro x hx; first | (cases hx; done) | ((repeat (first | exact hx | apply mS)); done)))) (fun w K hM0 hK => ?_); refine ws_store hM0 rfl rfl rfl (by (repeat (first | (with_reducible exact Take.head) | apply Take.tail)); first | done | fail) (n := 32) (by simp [bvs_len, HNM.out]) (by simp [bvs_len, z32_len]) (by kernel_rfl) (by simpa using bvs_oneCell _) (fun w hM => hK _ _ _ hM ?_); clear hM hM0 hK K; simp only [Act.put, List.setIfInBounds_toArray, List.set_cons_zero, List.set_cons_succ]; refine RS_done (by decide +kernel) (.inl (by first | (intro x hx; (repeat (first | exact hx | apply mS)); done) | ((repeat (refine List.forall_mem_cons.2 ⟨(by (repeat (first | assumption | (with_reducible exact mZ) | apply mS)); first | done | fail), ?_⟩)); intro x hx; first | (cases hx; done) | ((repeat (first | exact hx | apply mS)); done)))) (fun w hM => ?_))); rotate_right 1; (focus (refine RS_way (i := 0) rfl (by rfl) (fun w K hM0 hK => ?_); refine ws_call (by go_simp; try with_reducible rfl) (new_star w hM0) (fun r w2 hR => ?_); obtain ⟨gs, rfl, hM⟩ := hR; refine ⟨_, rfl, hK _ _ _ hM ?_⟩; clear hM hM0 hK K; simp only [Act.put, List.setIfInBounds_toArray, List.set_cons_zero, List.set_cons_succ]; refine RS_one (i := 3) (by decide +kernel) rfl (by rfl) (.inl (by first | (intro x hx; (repeat (first | exact hx | apply mS)); done) | ((repeat (refine List.forall_mem_cons.2 ⟨(by (repeat (first | assumption | (with_reducible exact mZ) | apply mS)); first | done | fail), ?_⟩)); intro x hx; first | (cases hx; done) | ((repeat (first | exact hx | apply mS)); done)))) (fun w K hM0 hK => ?_); refine ws_slice_row hM0 (n := 1) rfl 9 1 (.string ByteArray.empty) [sv (crvH kd N)] Try.underlying61 (by kernel_rfl) rfl (by simp [Value.cells, iv, sv, bv]) (by rfl) (by decide) (cs := svs [crvH kd N]) (by rfl) (fun gr w hM => hK _ _ _ hM ?_); clear hM hM0 hK K; simp only [Act.put, List.setIfInBounds_toArray, List.set_cons_zero, List.set_cons_succ]; refine RS_one (i := 4) (by decide +kernel) rfl (by rfl) (.inl (by first | (intro x hx; (repeat (first | exact hx | apply mS)); done) | ((repeat (refine List.forall_mem_cons.2 ⟨(by (repeat (first | assumption | (with_reducible exact mZ) | apply mS)); first | done | fail), ?_⟩)); intro x hx; first | (cases hx; done) | ((repeat (first | exact hx | apply mS)); done)))) (fun w K hM0 hK => ?_); refine ws_call (by go_simp; try with_reducible rfl) (write2 (As := some ⟨gr, 0, none⟩) (np := 1) (cp := 1) gs [] [crvH kd N] (by (repeat (first | (with_reducible exact Take.head) | apply Take.tail)); first | done | fail) (by (repeat (first | (with_reducible exact Take.head) | apply Take.tail)); first | done | fail) (by (repeat (first | assumption | (with_reducible exact mZ) | apply mS)); first | done | fail) (by simp [HCL.out]) (by omega) (by simp) w hM0) (fun r w2 hR => ?_); obtain ⟨A1, n1, c1, rfl, hM⟩ := hR; refine ⟨_, rfl, hK _ _ _ hM ?_⟩; clear hM hM0 hK K; simp only [Act.put, List.setIfInBounds_toArray, List.set_cons_zero, List.set_cons_succ]; refine RS_one (i := 6) (by decide +kernel) rfl (by rfl) (.inl (by first | (intro x hx; (repeat (first | exact hx | apply mS)); done) | ((repeat (refine List.forall_mem_cons.2 ⟨(by (repeat (first | assumption | (with_reducible exact mZ) | apply mS)); first | done | fail), ?_⟩)); intro x hx; first | (cases hx; done) | ((repeat (first | exact hx | apply mS)); done)))) (fun w K hM0 hK => ?_); refine ws_call (by go_simp; try with_reducible rfl) (write2_b (As := As) (np := k) (cp := cp) gs ([] ++ cat [crvH kd N]) ps (by (repeat (first | (with_reducible exact Take.head) | apply Take.tail)); first | done | fail) (by (repeat (first | (with_reducible exact Take.head) | apply Take.tail)); first | done | fail) (by (repeat (first | assumption | (with_reducible exact mZ) | apply mS)); first | done | fail) (by have h2 := HBB.out; simp [cat, HCL.out]; omega) (by omega) w hM0) (fun r w2 hR => ?_); obtain ⟨A2, n2, c2, rfl, hM⟩ := hR; refine ⟨_, rfl, hK _ _ _ hM ?_⟩; clear hM hM0 hK K; simp only [Act.put, List.setIfInBounds_toArray, List.set_cons_zero, List.set_cons_succ]; refine RS_one (i := 7) (by decide +kernel) rfl (by rfl) (.inl (by first | (intro x hx; (repeat (first | exact hx | apply mS)); done) | ((repeat (refine List.forall_mem_cons.2 ⟨(by (repeat (first | assumption | (with_reducible exact mZ) | apply mS)); first | done | fail), ?_⟩)); intro x hx; first | (cases hx; done) | ((repeat (first | exact hx | apply mS)); done)))) (fun w K hM0 hK => ?_); refine ws_call (by go_simp; try with_reducible rfl) (HSM gs A2 n2 c2 (by (repeat (first | (with_reducible exact Take.head) | apply Take.tail)); first | done | fail) (by (repeat (first | (with_reducible exact Take.head) | apply Take.tail)); first | done | fail) w hM0) (fun r w2 hR => ?_); obtain ⟨rfl, hM⟩ := hR; refine ⟨_, rfl, hK _ _ _ hM ?_⟩; clear hM hM0 hK K; simp only [Act.put, List.setIfInBounds_toArray, List.set_cons_zero, List.set_cons_succ]; refine RS_one (i := 8) (by decide +kernel) rfl (by rfl) (.inl (by first | (intro x hx; (repeat (first | exact hx | apply mS)); done) | ((repeat (refine List.forall_mem_cons.2 ⟨(by (repeat (first | assumption | (with_reducible exact mZ) | apply mS)); first | done | fail), ?_⟩)); intro x hx; first | (cases hx; done) | ((repeat (first | exact hx | apply mS)); done)))) (fun w K hM0 hK => ?_); refine ws_store hM0 rfl rfl rfl (by (repeat (first | (with_reducible exact Take.head) | apply Take.tail)); first | done | fail) (n := 32) (by simp [bvs_len, HNM.out]) (by simp [bvs_len, z32_len]) (by kernel_rfl) (by simpa using bvs_oneCell _) (fun w hM => hK _ _ _ hM ?_); clear hM hM0 hK K; simp only [Act.put, List.setIfInBounds_toArray, List.set_cons_zero, List.set_cons_succ]; refine RS_done (by decide +kernel) (.inl (by first | (intro x hx; (repeat (first | exact hx | apply mS)); done) | ((repeat (refine List.forall_mem_cons.2 ⟨(by (repeat (first | assumption | (with_reducible exact mZ) | apply mS)); first | done | fail), ?_⟩)); intro x hx; first | (cases hx; done) | ((repeat (first | exact hx | apply mS)); done)))) (fun w hM => ?_))))
          all_goals
            go_wp2
            exact bodyPost_ret (results_cell_row rfl _ _ g4 23 (bvs nm).toArray (0, 0) _ rfl (hM.blk (by (repeat (first | assumption | (with_reducible exact mZ) | apply mS)); first | done | fail)) Try.underlying23 rfl (by rw [info_idn]; simp [bvs_len, HNM.out])) rfl ⟨rfl, hM.sel (by repeat (first | (with_reducible exact Sel.refl) | (with_reducible exact Take.head) | (with_reducible apply Take.tail) | (with_reducible apply Sel.cons) | (with_reducible apply Sel.drop)))⟩
theorem oof_star {F : List SProp} (kd : UInt8) (ps : List (List UInt8)) (As : Option Addr) (np cp : Nat) (hps : ∀ x ∈ ps, x.length ≤ 1000000) (hnp : np ≤ 1000) (w : World) (hM : Star F w) (hF : rowE 1 As np (svs ps) ∈ F) :
    Calls Try.prog 37 #[.int .i64 kd.toNat, .slice As np cp] w fun r w' => r = .returned (.agg (bvs (onm kd (cat ps))).toArray) ∧ Star F w' :=
  oof_star_b kd ps As np cp (by have h1 := cat_le 1000000 ps hps; rw [svs_row (hM.row hF)] at h1; omega) hnp w hM hF
end Go.Proofs.Ytlhedbjjlomniaa
set_option linter.unusedSimpArgs false
set_option linter.unusedVariables false
namespace Go.Proofs.Ytlhedbjjlomniaa
open Go.RowKit
attribute [local go_sem] extract_mid extract_drop bget bsize wrap64_u8 i64_u8 u64_u8 bappend
set_option maxRecDepth 100000 in
set_option maxHeartbeats 2000000 in
theorem rOof_star {F : List SProp} (kd : UInt8) (s : List UInt8) (hs : s.length ≤ 140737488352000) (w : World) (hM : Star F w) :
    Calls Try.prog 78 #[.int .i64 kd.toNat, .string ⟨s.toArray⟩] w fun r w' => r = .returned (.string ⟨(onm kd s).toArray⟩) ∧ Star F w' := by
  obtain ⟨u, hu⟩ : ∃ u, u = UInt32.ofNat s.length := ⟨_, rfl⟩
  have hbe := be4_word s.length
  rw [← hu] at hbe
  have hx : IntKind.u32.wrap (s.length : Int) = w32 u := by rw [IntKind.wrap_u32, hu]; simp [w32]; try omega
  have hlw : (wbytes u).length = 4 := by simp [wbytes]
  have HO : ∀ {L : List SProp} (w : World), Star L w → Calls Try.prog 103 #[.string ⟨(99 :: 114 :: 118 :: kd :: (wbytes u ++ s)).toArray⟩] w fun r w' => r = .returned (.string ⟨(onm kd s).toArray⟩) ∧ Star L w' := fun w hM => by
    have h := rOf_star (99 :: 114 :: 118 :: kd :: (wbytes u ++ s)) (by simp; omega) w hM
    rwa [show sha (99 :: 114 :: 118 :: kd :: (wbytes u ++ s)) = onm kd s by rw [onm, crvH, hbe]; rfl] at h
  generalize onm kd s = nm at HO ⊢
  have hk1 := kd.toNat_lt
  have hk2 : ((kd.toNat : Int)).tmod 256 = (kd.toNat : Int) := by rw [Int.tmod_eq_emod_of_nonneg (by omega)]; omega
  have hk3 : (kd.toNat : Int) % 256 = (kd.toNat : Int) := by omega
  have hk4 : IntKind.u8.wrap (kd.toNat : Int) = (kd.toNat : Int) := u8_u8 kd
  have hsc : ¬ (9223372036854775807 < 8 + s.length) := by omega
  clear hu hbe
  go_enter Try.func78, Try.ntmps78
  go_wp2_with fail
  (refine region_RS ([]) [] (by kernel_rfl) hM ?_; clear hM; change RS _ _ _ _ _ _ 15 (Array.replicate 15 false) _ _; refine RS_take (i := 0) rfl (by decide +kernel) (fun _ _ _ h => h) (by first | (intro x hx; (repeat (first | exact hx | apply mS)); done) | ((repeat (refine List.forall_mem_cons.2 ⟨(by (repeat (first | assumption | (with_reducible exact mZ) | apply mS)); first | done | fail), ?_⟩)); intro x hx; first | (cases hx; done) | ((repeat (first | exact hx | apply mS)); done))) (stab_pure (by rfl) (fun w => (by go_simp; try with_reducible rfl))) ?_; simp only [Act.put, List.setIfInBounds_toArray, List.set_cons_zero, List.set_cons_succ]; refine RS_take (i := 1) rfl (by decide +kernel) (fun _ _ _ h => h) (by first | (intro x hx; (repeat (first | exact hx | apply mS)); done) | ((repeat (refine List.forall_mem_cons.2 ⟨(by (repeat (first | assumption | (with_reducible exact mZ) | apply mS)); first | done | fail), ?_⟩)); intro x hx; first | (cases hx; done) | ((repeat (first | exact hx | apply mS)); done))) (stab_pure (by rfl) (fun w => (by go_simp; try with_reducible rfl))) ?_; simp only [Act.put, List.setIfInBounds_toArray, List.set_cons_zero, List.set_cons_succ]; refine RS_take (i := 2) rfl (by decide +kernel) (fun _ _ _ h => h) (by first | (intro x hx; (repeat (first | exact hx | apply mS)); done) | ((repeat (refine List.forall_mem_cons.2 ⟨(by (repeat (first | assumption | (with_reducible exact mZ) | apply mS)); first | done | fail), ?_⟩)); intro x hx; first | (cases hx; done) | ((repeat (first | exact hx | apply mS)); done))) ((by first | exact stab_pure (by rfl) (fun w => (by go_simp; try with_reducible rfl)) | exact stab_read (by rfl) (fun L w hL hM => ex_string rfl 5 Try.underlying80 Try.underlying9 Try.underlying5 rfl (hM.row (hL _ (by (repeat (first | assumption | (with_reducible exact mZ) | apply mS)); first | done | fail)))))) ?_; simp only [Act.put, List.setIfInBounds_toArray, List.set_cons_zero, List.set_cons_succ]; refine RS_take (i := 6) rfl (by decide +kernel) (fun _ _ _ h => h) (by first | (intro x hx; (repeat (first | exact hx | apply mS)); done) | ((repeat (refine List.forall_mem_cons.2 ⟨(by (repeat (first | assumption | (with_reducible exact mZ) | apply mS)); first | done | fail), ?_⟩)); intro x hx; first | (cases hx; done) | ((repeat (first | exact hx | apply mS)); done))) (stab_pure (by rfl) (fun w => (by go_simp; try with_reducible rfl))) ?_; simp only [Act.put, List.setIfInBounds_toArray, List.set_cons_zero, List.set_cons_succ]; refine RS_take (i := 7) rfl (by decide +kernel) (fun _ _ _ h => h) (by first | (intro x hx; (repeat (first | exact hx | apply mS)); done) | ((repeat (refine List.forall_mem_cons.2 ⟨(by (repeat (first | assumption | (with_reducible exact mZ) | apply mS)); first | done | fail), ?_⟩)); intro x hx; first | (cases hx; done) | ((repeat (first | exact hx | apply mS)); done))) (stab_pure (by rfl) (fun w => (by go_simp; try with_reducible rfl))) ?_; simp only [Act.put, List.setIfInBounds_toArray, List.set_cons_zero, List.set_cons_succ]; refine RS_take (i := 8) rfl (by decide +kernel) (fun _ _ _ h => h) (by first | (intro x hx; (repeat (first | exact hx | apply mS)); done) | ((repeat (refine List.forall_mem_cons.2 ⟨(by (repeat (first | assumption | (with_reducible exact mZ) | apply mS)); first | done | fail), ?_⟩)); intro x hx; first | (cases hx; done) | ((repeat (first | exact hx | apply mS)); done))) ((by first | exact stab_pure (by rfl) (fun w => (by go_simp; try with_reducible rfl)) | exact stab_read (by rfl) (fun L w hL hM => ex_string rfl 5 Try.underlying80 Try.underlying9 Try.underlying5 rfl (hM.row (hL _ (by (repeat (first | assumption | (with_reducible exact mZ) | apply mS)); first | done | fail)))))) ?_; simp only [Act.put, List.setIfInBounds_toArray, List.set_cons_zero, List.set_cons_succ]; refine RS_take (i := 9) rfl (by decide +kernel) (fun _ _ _ h => h) (by first | (intro x hx; (repeat (first | exact hx | apply mS)); done) | ((repeat (refine List.forall_mem_cons.2 ⟨(by (repeat (first | assumption | (with_reducible exact mZ) | apply mS)); first | done | fail), ?_⟩)); intro x hx; first | (cases hx; done) | ((repeat (first | exact hx | apply mS)); done))) (stab_call (by rfl) (fun w => (by go_simp; try with_reducible rfl)) (fun L w hL hM => (wbytes_star u w hM))) ?_; simp only [Act.put, List.setIfInBounds_toArray, List.set_cons_zero, List.set_cons_succ]; refine RS_take (i := 11) rfl (by decide +kernel) (fun _ _ _ h => h) (by first | (intro x hx; (repeat (first | exact hx | apply mS)); done) | ((repeat (refine List.forall_mem_cons.2 ⟨(by (repeat (first | assumption | (with_reducible exact mZ) | apply mS)); first | done | fail), ?_⟩)); intro x hx; first | (cases hx; done) | ((repeat (first | exact hx | apply mS)); done))) (stab_pure (by rfl) (fun w => (by go_simp; try with_reducible rfl))) ?_; simp only [Act.put, List.setIfInBounds_toArray, List.set_cons_zero, List.set_cons_succ]; refine RS_one (i := 3) (by decide +kernel) rfl (by rfl) (.inl (by first | (intro x hx; (repeat (first | exact hx | apply mS)); done) | ((repeat (refine List.forall_mem_cons.2 ⟨(by (repeat (first | assumption | (with_reducible exact mZ) | apply mS)); first | done | fail), ?_⟩)); intro x hx; first | (cases hx; done) | ((repeat (first | exact hx | apply mS)); done)))) (fun w K hM0 hK => ?_); refine ws_slice_row hM0 (n := 1) rfl 5 1 (.int .u8 0) [bv kd] Try.underlying80 (by kernel_rfl) rfl (by simp [Value.cells, iv, sv, bv]) (by rfl) (by decide) (cs := bvs [kd]) (by rfl) (fun gk w hM => hK _ _ _ hM ?_); clear hM hM0 hK K; simp only [Act.put, List.setIfInBounds_toArray, List.set_cons_zero, List.set_cons_succ]; refine RS_one (i := 4) (by decide +kernel) rfl (by rfl) (.inl (by first | (intro x hx; (repeat (first | exact hx | apply mS)); done) | ((repeat (refine List.forall_mem_cons.2 ⟨(by (repeat (first | assumption | (with_reducible exact mZ) | apply mS)); first | done | fail), ?_⟩)); intro x hx; first | (cases hx; done) | ((repeat (first | exact hx | apply mS)); done)))) (fun w K hM0 hK => ?_); refine ws_of_ex (ex_string (l := [kd]) rfl 5 Try.underlying80 Try.underlying9 Try.underlying5 rfl (hM0.row (by (repeat (first | assumption | (with_reducible exact mZ) | apply mS)); first | done | fail))) (hK _ _ _ hM0 ?_); clear hM0 hK K; simp only [Act.put, List.setIfInBounds_toArray, List.set_cons_zero, List.set_cons_succ]; refine RS_take (i := 5) rfl (by decide +kernel) (fun _ _ _ h => h) (by first | (intro x hx; (repeat (first | exact hx | apply mS)); done) | ((repeat (refine List.forall_mem_cons.2 ⟨(by (repeat (first | assumption | (with_reducible exact mZ) | apply mS)); first | done | fail), ?_⟩)); intro x hx; first | (cases hx; done) | ((repeat (first | exact hx | apply mS)); done))) (stab_pure (by rfl) (fun w => (by go_simp; try with_reducible rfl))) ?_; simp only [Act.put, List.setIfInBounds_toArray, List.set_cons_zero, List.set_cons_succ]; refine RS_take (i := 10) rfl (by decide +kernel) (fun _ _ _ h => h) (by first | (intro x hx; (repeat (first | exact hx | apply mS)); done) | ((repeat (refine List.forall_mem_cons.2 ⟨(by (repeat (first | assumption | (with_reducible exact mZ) | apply mS)); first | done | fail), ?_⟩)); intro x hx; first | (cases hx; done) | ((repeat (first | exact hx | apply mS)); done))) (stab_pure (by rfl) (fun w => (by go_simp; try with_reducible rfl))) ?_; simp only [Act.put, List.setIfInBounds_toArray, List.set_cons_zero, List.set_cons_succ]; refine RS_take (i := 12) rfl (by decide +kernel) (fun _ _ _ h => h) (by first | (intro x hx; (repeat (first | exact hx | apply mS)); done) | ((repeat (refine List.forall_mem_cons.2 ⟨(by (repeat (first | assumption | (with_reducible exact mZ) | apply mS)); first | done | fail), ?_⟩)); intro x hx; first | (cases hx; done) | ((repeat (first | exact hx | apply mS)); done))) (stab_pure (by rfl) (fun w => (by go_simp; try with_reducible rfl))) ?_; simp only [Act.put, List.setIfInBounds_toArray, List.set_cons_zero, List.set_cons_succ]; refine RS_take (i := 13) rfl (by decide +kernel) (fun _ _ _ h => h) (by first | (intro x hx; (repeat (first | exact hx | apply mS)); done) | ((repeat (refine List.forall_mem_cons.2 ⟨(by (repeat (first | assumption | (with_reducible exact mZ) | apply mS)); first | done | fail), ?_⟩)); intro x hx; first | (cases hx; done) | ((repeat (first | exact hx | apply mS)); done))) (stab_call (by rfl) (fun w => (by go_simp; try with_reducible rfl)) (fun L w hL hM => (HO w hM))) ?_; simp only [Act.put, List.setIfInBounds_toArray, List.set_cons_zero, List.set_cons_succ]; refine RS_take (i := 14) rfl (by decide +kernel) (fun _ _ _ h => h) (by first | (intro x hx; (repeat (first | exact hx | apply mS)); done) | ((repeat (refine List.forall_mem_cons.2 ⟨(by (repeat (first | assumption | (with_reducible exact mZ) | apply mS)); first | done | fail), ?_⟩)); intro x hx; first | (cases hx; done) | ((repeat (first | exact hx | apply mS)); done))) (stab_pure (by rfl) (fun w => (by go_simp; try with_reducible rfl))) ?_; simp only [Act.put, List.setIfInBounds_toArray, List.set_cons_zero, List.set_cons_succ]; refine RS_done (by decide +kernel) (.inl (by first | (intro x hx; (repeat (first | exact hx | apply mS)); done) | ((repeat (refine List.forall_mem_cons.2 ⟨(by (repeat (first | assumption | (with_reducible exact mZ) | apply mS)); first | done | fail), ?_⟩)); intro x hx; first | (cases hx; done) | ((repeat (first | exact hx | apply mS)); done)))) (fun w hM => ?_))
  go_wp2
  go_ret
  exact ⟨rfl, hM.sel (by repeat (first | (with_reducible exact Sel.refl) | (with_reducible exact Take.head) | (with_reducible apply Take.tail) | (with_reducible apply Sel.cons) | (with_reducible apply Sel.drop)))⟩
theorem ws_build {P : Program} {w : World} {o : Oper} {a : Act} {Q : Exit → Act → World → Prop} {K : Act → World → Prop} {t : TypeId} {parts : Array (Nat × Operand)} (ho : o.op = .build t parts) (v : Value)
    (hrun : (Instr.build t (parts.map fun x => (x.1, a.eval x.2))).run P w = .ok v w) (hK : K (a.put o.dst v) w) : Oper.wp P o a w K Q := by
  unfold Oper.wp
  simp only [execOp, ho, Sem.run_bind, hrun, Result.andThen_ok, Sem.run_pure]
  exact hK
/-- A name that begins with c. -/
def b0 (c : UInt8) : List UInt8 := c :: List.replicate 31 0
end Go.Proofs.Ytlhedbjjlomniaa
set_option linter.unusedSimpArgs false
set_option linter.unusedVariables false
namespace Go.Proofs.Ytlhedbjjlomniaa
open Go.RowKit
attribute [local go_sem] extract_mid extract_drop bget bsize wrap64_u8 i64_u8 u64_u8 bappend
@[irreducible] def pcs (p : Pt) : List Value := bvs p.1 ++ [iv p.2]
def pvs (l : List Pt) : List Value := l.flatMap pcs
def ok32 (l : List Pt) : Prop := ∀ p ∈ l, p.1.length = 32
theorem pcs_len {p : Pt} (h : p.1.length = 32) : (pcs p).length = 33 := by unfold pcs; simp [bvs_len, h]
theorem pcs_sz {p : Pt} (h : p.1.length = 32) : (pcs p).toArray.size = 33 := by rw [List.size_toArray]; exact pcs_len h
theorem pcs_32 {p : Pt} (h : p.1.length = 32) : (pcs p).toArray[32]? = some (.int .i64 p.2) := by
  unfold pcs
  rw [List.getElem?_toArray, List.getElem?_append_right (by rw [bvs_len]; omega)]
  simp [bvs_len, h, iv]
theorem pcs_id (p : Pt) : ∀ j v, (bvs p.1)[j]? = some v → (pcs p).toArray[0 + j]? = some v := by
  intro j v hv
  have hj := (List.getElem?_eq_some_iff.1 hv).1
  unfold pcs
  rw [Nat.zero_add, List.getElem?_toArray, List.getElem?_append_left hj]
  exact hv
theorem pcs_one (p : Pt) : ∀ v ∈ pcs p, v.oneCell' = true := by
  unfold pcs
  intro v hv
  rcases List.mem_append.1 hv with hv | hv
  · exact bvs_oneCell _ _ hv
  · rw [List.mem_singleton.1 hv]; rfl
theorem pcs_oneA (p : Pt) : ∀ v ∈ (pcs p).toArray.toList, v.oneCell' = true := by simpa using pcs_one p
theorem pvs_app (a b : List Pt) : pvs (a ++ b) = pvs a ++ pvs b := by simp [pvs]
theorem pvs_cells (l : List Pt) : ∀ v ∈ pvs l, v.oneCell' = true := by
  intro u hu
  obtain ⟨c, _, h⟩ := List.mem_flatMap.1 hu
  exact pcs_one c u h
theorem pvs_row {w : World} {A : Option Addr} {n : Nat} {l : List Pt} (h : Rd w 33 A n (pvs l)) (hf : ok32 l) : l.length = n := by
  have := flat_len pcs 33 l fun x hx => pcs_len (hf x hx)
  have h2 := h.1
  unfold pvs at h2
  omega
theorem info_pt : (Try.prog.info? 64).map (fun i => i.zero) = some (some (.agg (pcs (z32, 0)).toArray)) := by unfold pcs; kernel_rfl
theorem z32_32 : ((z32, 0) : Pt).1.length = 32 := z32_len
abbrev ndC (lv : Int) (A : Option Addr) (n c : Nat) : Array Value := #[.int .i64 lv, .slice A n c]
theorem most_any (lv : Int) (h1 : 1 ≤ lv) (h2 : lv ≤ 8) (w : World) : Calls Try.prog 99 #[.int .i64 lv] w fun r w' => r = .returned (.int .i64 (mostN lv)) ∧ w = w' := by
  obtain ⟨m, rfl⟩ : ∃ m : Nat, lv = (m : Int) + 1 := ⟨(lv - 1).toNat, by omega⟩
  have hm : m ≤ 7 := by omega
  go_enter Try.func99, Try.ntmps99
  go_wp2
  go_loopw [3, 6] (fun v i wr => ∃ (k : Nat) (y : Int), k ≤ m ∧ i = .int .i64 k ∧ v = .int .i64 y ∧ Hid (y = mostN ((k : Int) + 1)) ∧ 256 ≤ y ∧ y ≤ 32768 ∧ w = wr) (fun _ i _ => m - (intOf i).toNat)
  case atStart => exact ⟨0, 256, by omega, rfl, rfl, by show _ = _; rfl, by omega, by omega, rfl⟩
  case round =>
    obtain ⟨k, y, hk, rfl, rfl, HY, hy1, hy2, rfl⟩ := hrel
    by_cases hlt : k < m
    · obtain ⟨y', hy'⟩ : ∃ y', (if 8 * y < 32768 then 8 * y else 32768) = y' := ⟨_, rfl⟩
      have hy3 : y' = mostN (((k + 1 : Nat) : Int) + 1) := by
        have := HY.out
        rw [← hy', this]
        rcases (by omega : k = 0 ∨ k = 1 ∨ k = 2 ∨ 3 ≤ k) with rfl | rfl | rfl | h
        · rfl
        · rfl
        · rfl
        · have e1 : mostN ((k : Int) + 1) = 32768 := by unfold mostN; rw [if_neg (by omega), if_neg (by omega), if_neg (by omega)]
          have e2 : mostN (((k + 1 : Nat) : Int) + 1) = 32768 := by unfold mostN; rw [if_neg (by omega), if_neg (by omega), if_neg (by omega)]
          rw [e1, e2]; rfl
      have hy4 := mostN_le (((k + 1 : Nat) : Int) + 1)
      rw [← hy3] at hy4
      have HY3 := Lib.hid hy3
      have hmin : min (y * 8) 32768 = y' := by rw [← hy']; split <;> omega
      clear hy3 hy'
      go_wp2
      all_goals
        go_roundw
        case rel => exact ⟨k + 1, y', by omega, by go_num, (by first | rfl | (congr 1; omega)), HY3.out, hy4.1, hy4.2, (by first | rfl | trivial)⟩
        case measure => simp [intOf]; omega
    · obtain rfl : k = m := by omega
      go_wp2
      go_ret
      exact ⟨ret_int HY.out, rfl⟩
set_option maxRecDepth 100000 in
theorem size_star {F : List SProp} (lv : Int) (A : Option Addr) (n c : Nat) (l : List Pt) (h32 : ok32 l) (hb : ∀ p ∈ l, 0 ≤ p.2 ∧ p.2 ≤ 1000000) (hn : n ≤ 1000) (w : World) (hM : Star F w) (hF : rowE 33 A n (pvs l) ∈ F) :
    Calls Try.prog 100 #[.agg (ndC lv A n c)] w fun r w' => r = .returned (.int .i64 (sumP l)) ∧ Star F w' := by
  have hlen := pvs_row (hM.row hF) h32
  have HL := Lib.hid hlen
  have H32 := Lib.hid h32
  have HB := Lib.hid hb
  clear hlen hb
  go_enter Try.func100, Try.ntmps100
  go_wp2_with (first | (first | ((with_reducible refine at_box' ?_); (have hM0 := hM; clear hM; refine BigFrame.wpList_want (by rfl) fun K hK => ws_box hM0 rfl rfl (cs := ndC lv A n c) rfl (fun gx w hM => hK _ _ ?_); clear hM0 hK K)) | fail) | (first | ((with_reducible refine at_load' ?_); (refine BigFrame.wpList_want (by rfl) fun K hK => ws_load1 hM rfl rfl (by (repeat (first | assumption | (with_reducible exact mZ) | apply mS)); first | done | fail) (by first | rfl | assumption) (by decide +kernel) (hK _ _ ?_); clear hK K)) | fail))
  go_loopw [3, 9] (fun v i wr => ∃ (k : Nat) (s : Int), k ≤ n ∧ i = .int .i64 k ∧ v = .int .i64 s ∧ Hid (s = sumP (l.take k)) ∧ Star F wr) (fun _ i _ => n - (intOf i).toNat)
  case atStart => exact ⟨0, 0, by omega, rfl, rfl, rfl, hM.sub (by repeat (first | exact List.Sublist.refl _ | apply List.Sublist.cons))⟩
  case round =>
    clear hM
    obtain ⟨k, s, hk, rfl, rfl, HS, hM⟩ := hrel
    by_cases hlt : k < n
    · obtain ⟨ad, d, rfl, hc, hg, ht⟩ := Rd.elems (f := pcs) (hM.row hF) (fun x hx => pcs_len (h32 x hx)) (by omega) hlt
      have hdm := List.mem_of_getElem? hg
      have HD := Lib.hid (h32 d hdm)
      have hd2 := HB.out d hdm
      have hsb := sumP_le 1000000 (l.take k) fun p hp => HB.out p (List.mem_of_mem_take hp)
      have hlk : (l.take k).length ≤ 1000 := by rw [List.length_take]; omega
      rw [← HS.out] at hsb
      have HT : Hid (s + d.2 = sumP (l.take (k + 1))) := by show _ = _; rw [ht, sumP_app, HS.out]; simp [sumP]
      have hs1 : 0 ≤ s := hsb.1
      have hs2 : s ≤ 1000000 * 1000 := by have := hsb.2; omega
      obtain ⟨x, hx⟩ : ∃ x, d.2 = x := ⟨_, rfl⟩
      have HX : Hid ((pcs d).toArray[32]? = some (.int .i64 x)) := by show _ = _; rw [← hx]; exact pcs_32 HD.out
      rw [hx] at hd2 HT
      clear ht hg hdm hsb hlk hx h32
      go_wp2_with (first | ((with_reducible refine at_load' ?_); refine BigFrame.wpList_want (by rfl) fun K hK => ws_load_at rfl rfl (pcs d) hc (n := 33) (pcs_len HD.out) (by decide +kernel) (hK _ _ ?_); clear hK K) | (first | ((with_reducible refine at_alloc' ?_); (have hM0 := hM; clear hM; refine BigFrame.wpList_want (by rfl) fun K hK => ws_alloc hM0 (t := 64) rfl (pcs (z32, 0)).toArray info_pt (fun g5 w hM => hK _ _ ?_); clear hM0 hK K)) | fail) | (first | ((with_reducible refine at_store' ?_); (have hM0 := hM; clear hM; refine BigFrame.wpList_want (by rfl) fun K hK => ws_store hM0 rfl rfl rfl (by (repeat (first | (with_reducible exact Take.head) | apply Take.tail)); first | done | fail) (n := 33) (by exact pcs_sz HD.out) (by exact pcs_sz z32_32) (by kernel_rfl) (by exact pcs_oneA _) (fun w hM => hK _ _ ?_); clear hM0 hK K)) | fail) | (first | ((with_reducible refine at_load' ?_); (refine BigFrame.wpList_want (by rfl) fun K hK => ws_load1 hM rfl rfl (by (repeat (first | assumption | (with_reducible exact mZ) | apply mS)); first | done | fail) (by exact HX.out) (by decide +kernel) (hK _ _ ?_); clear hK K)) | fail))
      go_roundw
      case rel => exact ⟨k + 1, s + x, by omega, by go_num, rfl, HT.out, hM.sub (by repeat (first | exact List.Sublist.refl _ | apply List.Sublist.cons))⟩
      case measure => simp [intOf]; omega
    · go_wp2
      go_ret
      exact ⟨ret_int (by rw [HS.out, List.take_of_length_le (by rw [HL.out]; omega)]), hM⟩
theorem firstBad_cons (m : Int) (p : Pt) (l : List Pt) : firstBad m (p :: l) = if p.2 < 1 then 2 else if m < p.2 then 5 else firstBad m l := rfl
theorem drop_at {α : Type} {l : List α} {k : Nat} {d : α} (h : l[k]? = some d) : l.drop k = d :: l.drop (k + 1) := by
  obtain ⟨h1, rfl⟩ := List.getElem?_eq_some_iff.1 h
  exact List.drop_eq_getElem_cons h1
set_option maxRecDepth 100000 in
set_option maxHeartbeats 4000000 in
theorem ncheck_star {F : List SProp} (lv : Int) (A : Option Addr) (n c : Nat) (l : List Pt) (h32 : ok32 l) (hb : ∀ p ∈ l, 0 ≤ p.2 ∧ p.2 ≤ 1000000) (hn : n ≤ 1000) (w : World) (hM : Star F w) (hF : rowE 33 A n (pvs l) ∈ F) :
    Calls Try.prog 74 #[.agg (ndC lv A n c)] w fun r w' => r = .returned (.int .i64 (checkN (lv, l))) ∧ Star F w' := by
  have hlen := pvs_row (hM.row hF) h32
  have HSZ := fun (L : List SProp) (w : World) (hM : Star L w) (hF : rowE 33 A n (pvs l) ∈ L) => size_star lv A n c l h32 hb hn w hM hF
  unfold checkN
  simp only
  rw [hlen]
  by_cases h1 : lv < 1
  · rw [if_pos (.inl h1)]
    have b1 : decide (lv < 1) = true := by simpa using h1
    clear HSZ hb h32 hlen
    go_enter Try.func74, Try.ntmps74
    go_wp2_with (first | (first | ((with_reducible refine at_box' ?_); (have hM0 := hM; clear hM; refine BigFrame.wpList_want (by rfl) fun K hK => ws_box hM0 rfl rfl (cs := ndC lv A n c) rfl (fun gx w hM => hK _ _ ?_); clear hM0 hK K)) | fail) | (first | ((with_reducible refine at_load' ?_); (refine BigFrame.wpList_want (by rfl) fun K hK => ws_load1 hM rfl rfl (by (repeat (first | assumption | (with_reducible exact mZ) | apply mS)); first | done | fail) (by first | rfl | assumption) (by decide +kernel) (hK _ _ ?_); clear hK K)) | fail))
    go_ret
    exact ⟨rfl, hM.sel (by repeat (first | (with_reducible exact Sel.refl) | (with_reducible exact Take.head) | (with_reducible apply Take.tail) | (with_reducible apply Sel.cons) | (with_reducible apply Sel.drop)))⟩
  have b1 : decide (lv < 1) = false := by simpa using h1
  by_cases h2 : 8 < lv
  · rw [if_pos (.inr (.inl h2))]
    have b2 : decide (8 < lv) = true := by simpa using h2
    clear HSZ hb h32 hlen
    go_enter Try.func74, Try.ntmps74
    go_wp2_with (first | (first | ((with_reducible refine at_box' ?_); (have hM0 := hM; clear hM; refine BigFrame.wpList_want (by rfl) fun K hK => ws_box hM0 rfl rfl (cs := ndC lv A n c) rfl (fun gx w hM => hK _ _ ?_); clear hM0 hK K)) | fail) | (first | ((with_reducible refine at_load' ?_); (refine BigFrame.wpList_want (by rfl) fun K hK => ws_load1 hM rfl rfl (by (repeat (first | assumption | (with_reducible exact mZ) | apply mS)); first | done | fail) (by first | rfl | assumption) (by decide +kernel) (hK _ _ ?_); clear hK K)) | fail))
    go_ret
    exact ⟨rfl, hM.sel (by repeat (first | (with_reducible exact Sel.refl) | (with_reducible exact Take.head) | (with_reducible apply Take.tail) | (with_reducible apply Sel.cons) | (with_reducible apply Sel.drop)))⟩
  have b2 : decide (8 < lv) = false := by simpa using h2
  by_cases h3 : n < 1
  · rw [if_pos (.inr (.inr h3))]
    have b3 : decide ((n : Int) < 1) = true := by simp; omega
    clear HSZ hb h32 hlen
    go_enter Try.func74, Try.ntmps74
    go_wp2_with (first | (first | ((with_reducible refine at_box' ?_); (have hM0 := hM; clear hM; refine BigFrame.wpList_want (by rfl) fun K hK => ws_box hM0 rfl rfl (cs := ndC lv A n c) rfl (fun gx w hM => hK _ _ ?_); clear hM0 hK K)) | fail) | (first | ((with_reducible refine at_load' ?_); (refine BigFrame.wpList_want (by rfl) fun K hK => ws_load1 hM rfl rfl (by (repeat (first | assumption | (with_reducible exact mZ) | apply mS)); first | done | fail) (by first | rfl | assumption) (by decide +kernel) (hK _ _ ?_); clear hK K)) | fail))
    go_ret
    exact ⟨rfl, hM.sel (by repeat (first | (with_reducible exact Sel.refl) | (with_reducible exact Take.head) | (with_reducible apply Take.tail) | (with_reducible apply Sel.cons) | (with_reducible apply Sel.drop)))⟩
  rw [if_neg (by omega)]
  have b3 : decide ((n : Int) < 1) = false := by simp; omega
  by_cases h4 : 8 < n
  · rw [if_pos h4]
    have b4 : decide (8 < (n : Int)) = true := by simp; omega
    clear HSZ hb h32 hlen
    go_enter Try.func74, Try.ntmps74
    go_wp2_with (first | (first | ((with_reducible refine at_box' ?_); (have hM0 := hM; clear hM; refine BigFrame.wpList_want (by rfl) fun K hK => ws_box hM0 rfl rfl (cs := ndC lv A n c) rfl (fun gx w hM => hK _ _ ?_); clear hM0 hK K)) | fail) | (first | ((with_reducible refine at_load' ?_); (refine BigFrame.wpList_want (by rfl) fun K hK => ws_load1 hM rfl rfl (by (repeat (first | assumption | (with_reducible exact mZ) | apply mS)); first | done | fail) (by first | rfl | assumption) (by decide +kernel) (hK _ _ ?_); clear hK K)) | fail))
    go_ret
    exact ⟨rfl, hM.sel (by repeat (first | (with_reducible exact Sel.refl) | (with_reducible exact Take.head) | (with_reducible apply Take.tail) | (with_reducible apply Sel.cons) | (with_reducible apply Sel.drop)))⟩
  rw [if_neg h4]
  have b4 : decide (8 < (n : Int)) = false := by simp; omega
  have HL := Lib.hid hlen
  have H32 := Lib.hid h32
  have HB := Lib.hid hb
  have HMO := Lib.hid (most_any lv (by omega) (by omega))
  have hmo := mostN_le lv
  have hsum := sumP_le 1000000 l hb
  rw [hlen] at hsum
  generalize mostN lv = mo at HMO hmo ⊢
  obtain ⟨V, hV⟩ : ∃ V, (if firstBad mo l ≠ 0 then firstBad mo l else if 32768 < sumP l then 5 else 0) = V := ⟨_, rfl⟩
  rw [hV]
  have HV := Lib.hid hV
  replace HSZ := Lib.hid HSZ
  clear hV hlen hb hsum h1 h2 h3
  go_enter Try.func74, Try.ntmps74
  go_wp2_with (first | (first | ((with_reducible refine at_box' ?_); (have hM0 := hM; clear hM; refine BigFrame.wpList_want (by rfl) fun K hK => ws_box hM0 rfl rfl (cs := ndC lv A n c) rfl (fun gx w hM => hK _ _ ?_); clear hM0 hK K)) | fail) | (first | ((with_reducible refine at_load' ?_); (refine BigFrame.wpList_want (by rfl) fun K hK => ws_load1 hM rfl rfl (by (repeat (first | assumption | (with_reducible exact mZ) | apply mS)); first | done | fail) (by first | rfl | assumption) (by decide +kernel) (hK _ _ ?_); clear hK K)) | fail))
  go_loopw [2, 28] (fun v i wr => ∃ k : Nat, k ≤ n ∧ i = .int .i64 k ∧ v = .int .i64 0 ∧ Hid (firstBad mo (l.drop k) = firstBad mo l) ∧ Star (cellsE gx 52 (ndC lv A n c) :: F) wr) (fun _ i _ => n - (intOf i).toNat)
  case atStart => exact ⟨0, by omega, rfl, rfl, by show _ = _; rw [List.drop_zero], hM⟩
  case round =>
    clear hM
    obtain ⟨k, hk, rfl, rfl, HS, hM⟩ := hrel
    by_cases hlt : k < n
    · obtain ⟨ad, d, rfl, hc, hg, ht⟩ := Rd.elems (f := pcs) (hM.row (List.mem_cons_of_mem _ hF)) (fun x hx => pcs_len (H32.out x hx)) (by omega) hlt
      have hdm := List.mem_of_getElem? hg
      have HD := Lib.hid (H32.out d hdm)
      have hd2 := HB.out d hdm
      have hfb := HS.out
      rw [drop_at hg] at hfb
      rw [firstBad_cons] at hfb
      obtain ⟨x, hx⟩ : ∃ x, d.2 = x := ⟨_, rfl⟩
      have HX : Hid ((pcs d).toArray[32]? = some (.int .i64 x)) := by show _ = _; rw [← hx]; exact pcs_32 HD.out
      rw [hx] at hd2 hfb
      clear ht hg hdm hx h32
      by_cases c1 : x < 1
      · rw [if_pos c1] at hfb
        have HF2 : Hid (V = 2) := by show _ = _; rw [← HV.out, ← hfb]; rfl
        have c1' : decide (x < 1) = true := by simpa using c1
        clear hfb
        go_wp2_with (first | ((with_reducible refine at_load' ?_); refine BigFrame.wpList_want (by rfl) fun K hK => ws_load_at rfl rfl (pcs d) hc (n := 33) (pcs_len HD.out) (by decide +kernel) (hK _ _ ?_); clear hK K) | (first | ((with_reducible refine at_alloc' ?_); (have hM0 := hM; clear hM; refine BigFrame.wpList_want (by rfl) fun K hK => ws_alloc hM0 (t := 64) rfl (pcs (z32, 0)).toArray info_pt (fun g4 w hM => hK _ _ ?_); clear hM0 hK K)) | fail) | (first | ((with_reducible refine at_store' ?_); (have hM0 := hM; clear hM; refine BigFrame.wpList_want (by rfl) fun K hK => ws_store hM0 rfl rfl rfl (by (repeat (first | (with_reducible exact Take.head) | apply Take.tail)); first | done | fail) (n := 33) (by exact pcs_sz HD.out) (by exact pcs_sz z32_32) (by kernel_rfl) (by exact pcs_oneA _) (fun w hM => hK _ _ ?_); clear hM0 hK K)) | fail) | (first | ((with_reducible refine at_load' ?_); (refine BigFrame.wpList_want (by rfl) fun K hK => ws_load1 hM rfl rfl (by (repeat (first | assumption | (with_reducible exact mZ) | apply mS)); first | done | fail) (by exact HX.out) (by decide +kernel) (hK _ _ ?_); clear hK K)) | fail))
        go_ret
        exact ⟨ret_int HF2.out.symm, hM.sel (by repeat (first | (with_reducible exact Sel.refl) | (with_reducible exact Take.head) | (with_reducible apply Take.tail) | (with_reducible apply Sel.cons) | (with_reducible apply Sel.drop)))⟩
      rw [if_neg c1] at hfb
      have c1' : decide (x < 1) = false := by simpa using c1
      by_cases c2 : mo < x
      · rw [if_pos c2] at hfb
        have HF2 : Hid (V = 5) := by show _ = _; rw [← HV.out, ← hfb]; rfl
        have c2' : decide (mo < x) = true := by simpa using c2
        clear hfb
        go_wp2_with (first | ((with_reducible refine at_load' ?_); refine BigFrame.wpList_want (by rfl) fun K hK => ws_load_at rfl rfl (pcs d) hc (n := 33) (pcs_len HD.out) (by decide +kernel) (hK _ _ ?_); clear hK K) | (first | ((with_reducible refine at_alloc' ?_); (have hM0 := hM; clear hM; refine BigFrame.wpList_want (by rfl) fun K hK => ws_alloc hM0 (t := 64) rfl (pcs (z32, 0)).toArray info_pt (fun g4 w hM => hK _ _ ?_); clear hM0 hK K)) | fail) | (first | ((with_reducible refine at_store' ?_); (have hM0 := hM; clear hM; refine BigFrame.wpList_want (by rfl) fun K hK => ws_store hM0 rfl rfl rfl (by (repeat (first | (with_reducible exact Take.head) | apply Take.tail)); first | done | fail) (n := 33) (by exact pcs_sz HD.out) (by exact pcs_sz z32_32) (by kernel_rfl) (by exact pcs_oneA _) (fun w hM => hK _ _ ?_); clear hM0 hK K)) | fail) | (first | ((with_reducible refine at_load' ?_); (refine BigFrame.wpList_want (by rfl) fun K hK => ws_load1 hM rfl rfl (by (repeat (first | assumption | (with_reducible exact mZ) | apply mS)); first | done | fail) (by exact HX.out) (by decide +kernel) (hK _ _ ?_); clear hK K)) | fail))
        (refine region_RS ([cellsE g4 64 (pcs d).toArray, cellsE gx 52 (ndC lv (some ad) n c)]) [] (by kernel_rfl) hM ?_; clear hM; change RS _ _ _ _ _ _ 6 (Array.replicate 6 false) _ _; refine RS_take (i := 0) rfl (by decide +kernel) (fun _ _ _ h => h) (by first | (intro x hx; (repeat (first | exact hx | apply mS)); done) | ((repeat (refine List.forall_mem_cons.2 ⟨(by (repeat (first | assumption | (with_reducible exact mZ) | apply mS)); first | done | fail), ?_⟩)); intro x hx; first | (cases hx; done) | ((repeat (first | exact hx | apply mS)); done))) (stab_pure (by rfl) (fun w => (by go_simp; try with_reducible rfl))) ?_; simp only [Act.put, List.setIfInBounds_toArray, List.set_cons_zero, List.set_cons_succ]; refine RS_take (i := 1) rfl (by decide +kernel) (fun _ _ _ h => h) (by first | (intro x hx; (repeat (first | exact hx | apply mS)); done) | ((repeat (refine List.forall_mem_cons.2 ⟨(by (repeat (first | assumption | (with_reducible exact mZ) | apply mS)); first | done | fail), ?_⟩)); intro x hx; first | (cases hx; done) | ((repeat (first | exact hx | apply mS)); done))) (stab_read (by rfl) (fun L w hL hM => (ex_load1 hM rfl rfl (hL _ (by (repeat (first | assumption | (with_reducible exact mZ) | apply mS)); first | done | fail)) HX.out (by decide +kernel)))) ?_; simp only [Act.put, List.setIfInBounds_toArray, List.set_cons_zero, List.set_cons_succ]; refine RS_take (i := 2) rfl (by decide +kernel) (fun _ _ _ h => h) (by first | (intro x hx; (repeat (first | exact hx | apply mS)); done) | ((repeat (refine List.forall_mem_cons.2 ⟨(by (repeat (first | assumption | (with_reducible exact mZ) | apply mS)); first | done | fail), ?_⟩)); intro x hx; first | (cases hx; done) | ((repeat (first | exact hx | apply mS)); done))) (stab_pure (by rfl) (fun w => (by go_simp; try with_reducible rfl))) ?_; simp only [Act.put, List.setIfInBounds_toArray, List.set_cons_zero, List.set_cons_succ]; refine RS_take (i := 3) rfl (by decide +kernel) (fun _ _ _ h => h) (by first | (intro x hx; (repeat (first | exact hx | apply mS)); done) | ((repeat (refine List.forall_mem_cons.2 ⟨(by (repeat (first | assumption | (with_reducible exact mZ) | apply mS)); first | done | fail), ?_⟩)); intro x hx; first | (cases hx; done) | ((repeat (first | exact hx | apply mS)); done))) (stab_read (by rfl) (fun L w hL hM => (by first | exact ex_load1 hM rfl rfl (hL _ (by (repeat (first | assumption | (with_reducible exact mZ) | apply mS)); first | done | fail)) rfl (by kernel_rfl) | exact ex_rowload rfl rfl (hM.row (hL _ (by (repeat (first | assumption | (with_reducible exact mZ) | apply mS)); first | done | fail))) (by assumption) (by kernel_rfl) | exact ex_rowload0 rfl rfl (hM.row (hL _ (by (repeat (first | assumption | (with_reducible exact mZ) | apply mS)); first | done | fail))) (by assumption) (by kernel_rfl)))) ?_; simp only [Act.put, List.setIfInBounds_toArray, List.set_cons_zero, List.set_cons_succ]; refine RS_take (i := 4) rfl (by decide +kernel) (fun _ _ _ h => h) (by first | (intro x hx; (repeat (first | exact hx | apply mS)); done) | ((repeat (refine List.forall_mem_cons.2 ⟨(by (repeat (first | assumption | (with_reducible exact mZ) | apply mS)); first | done | fail), ?_⟩)); intro x hx; first | (cases hx; done) | ((repeat (first | exact hx | apply mS)); done))) (stab_call (by rfl) (fun w => (by go_simp; try with_reducible rfl)) (fun L w hL hM => (starq (HMO.out w) hM))) ?_; simp only [Act.put, List.setIfInBounds_toArray, List.set_cons_zero, List.set_cons_succ]; refine RS_take (i := 5) rfl (by decide +kernel) (fun _ _ _ h => h) (by first | (intro x hx; (repeat (first | exact hx | apply mS)); done) | ((repeat (refine List.forall_mem_cons.2 ⟨(by (repeat (first | assumption | (with_reducible exact mZ) | apply mS)); first | done | fail), ?_⟩)); intro x hx; first | (cases hx; done) | ((repeat (first | exact hx | apply mS)); done))) (stab_pure (by rfl) (fun w => (by go_simp; try with_reducible rfl))) ?_; simp only [Act.put, List.setIfInBounds_toArray, List.set_cons_zero, List.set_cons_succ]; refine RS_done (by decide +kernel) (.inl (by first | (intro x hx; (repeat (first | exact hx | apply mS)); done) | ((repeat (refine List.forall_mem_cons.2 ⟨(by (repeat (first | assumption | (with_reducible exact mZ) | apply mS)); first | done | fail), ?_⟩)); intro x hx; first | (cases hx; done) | ((repeat (first | exact hx | apply mS)); done)))) (fun w hM => ?_))
        go_wp2
        go_ret
        exact ⟨ret_int HF2.out.symm, hM.sel (by repeat (first | (with_reducible exact Sel.refl) | (with_reducible exact Take.head) | (with_reducible apply Take.tail) | (with_reducible apply Sel.cons) | (with_reducible apply Sel.drop)))⟩
      · rw [if_neg c2] at hfb
        have HS2 := Lib.hid hfb
        have c2' : decide (mo < x) = false := by simpa using c2
        clear hfb
        go_wp2_with (first | ((with_reducible refine at_load' ?_); refine BigFrame.wpList_want (by rfl) fun K hK => ws_load_at rfl rfl (pcs d) hc (n := 33) (pcs_len HD.out) (by decide +kernel) (hK _ _ ?_); clear hK K) | (first | ((with_reducible refine at_alloc' ?_); (have hM0 := hM; clear hM; refine BigFrame.wpList_want (by rfl) fun K hK => ws_alloc hM0 (t := 64) rfl (pcs (z32, 0)).toArray info_pt (fun g4 w hM => hK _ _ ?_); clear hM0 hK K)) | fail) | (first | ((with_reducible refine at_store' ?_); (have hM0 := hM; clear hM; refine BigFrame.wpList_want (by rfl) fun K hK => ws_store hM0 rfl rfl rfl (by (repeat (first | (with_reducible exact Take.head) | apply Take.tail)); first | done | fail) (n := 33) (by exact pcs_sz HD.out) (by exact pcs_sz z32_32) (by kernel_rfl) (by exact pcs_oneA _) (fun w hM => hK _ _ ?_); clear hM0 hK K)) | fail) | (first | ((with_reducible refine at_load' ?_); (refine BigFrame.wpList_want (by rfl) fun K hK => ws_load1 hM rfl rfl (by (repeat (first | assumption | (with_reducible exact mZ) | apply mS)); first | done | fail) (by exact HX.out) (by decide +kernel) (hK _ _ ?_); clear hK K)) | fail))
        (refine region_RS ([cellsE g4 64 (pcs d).toArray, cellsE gx 52 (ndC lv (some ad) n c)]) [] (by kernel_rfl) hM ?_; clear hM; change RS _ _ _ _ _ _ 6 (Array.replicate 6 false) _ _; refine RS_take (i := 0) rfl (by decide +kernel) (fun _ _ _ h => h) (by first | (intro x hx; (repeat (first | exact hx | apply mS)); done) | ((repeat (refine List.forall_mem_cons.2 ⟨(by (repeat (first | assumption | (with_reducible exact mZ) | apply mS)); first | done | fail), ?_⟩)); intro x hx; first | (cases hx; done) | ((repeat (first | exact hx | apply mS)); done))) (stab_pure (by rfl) (fun w => (by go_simp; try with_reducible rfl))) ?_; simp only [Act.put, List.setIfInBounds_toArray, List.set_cons_zero, List.set_cons_succ]; refine RS_take (i := 1) rfl (by decide +kernel) (fun _ _ _ h => h) (by first | (intro x hx; (repeat (first | exact hx | apply mS)); done) | ((repeat (refine List.forall_mem_cons.2 ⟨(by (repeat (first | assumption | (with_reducible exact mZ) | apply mS)); first | done | fail), ?_⟩)); intro x hx; first | (cases hx; done) | ((repeat (first | exact hx | apply mS)); done))) (stab_read (by rfl) (fun L w hL hM => (ex_load1 hM rfl rfl (hL _ (by (repeat (first | assumption | (with_reducible exact mZ) | apply mS)); first | done | fail)) HX.out (by decide +kernel)))) ?_; simp only [Act.put, List.setIfInBounds_toArray, List.set_cons_zero, List.set_cons_succ]; refine RS_take (i := 2) rfl (by decide +kernel) (fun _ _ _ h => h) (by first | (intro x hx; (repeat (first | exact hx | apply mS)); done) | ((repeat (refine List.forall_mem_cons.2 ⟨(by (repeat (first | assumption | (with_reducible exact mZ) | apply mS)); first | done | fail), ?_⟩)); intro x hx; first | (cases hx; done) | ((repeat (first | exact hx | apply mS)); done))) (stab_pure (by rfl) (fun w => (by go_simp; try with_reducible rfl))) ?_; simp only [Act.put, List.setIfInBounds_toArray, List.set_cons_zero, List.set_cons_succ]; refine RS_take (i := 3) rfl (by decide +kernel) (fun _ _ _ h => h) (by first | (intro x hx; (repeat (first | exact hx | apply mS)); done) | ((repeat (refine List.forall_mem_cons.2 ⟨(by (repeat (first | assumption | (with_reducible exact mZ) | apply mS)); first | done | fail), ?_⟩)); intro x hx; first | (cases hx; done) | ((repeat (first | exact hx | apply mS)); done))) (stab_read (by rfl) (fun L w hL hM => (by first | exact ex_load1 hM rfl rfl (hL _ (by (repeat (first | assumption | (with_reducible exact mZ) | apply mS)); first | done | fail)) rfl (by kernel_rfl) | exact ex_rowload rfl rfl (hM.row (hL _ (by (repeat (first | assumption | (with_reducible exact mZ) | apply mS)); first | done | fail))) (by assumption) (by kernel_rfl) | exact ex_rowload0 rfl rfl (hM.row (hL _ (by (repeat (first | assumption | (with_reducible exact mZ) | apply mS)); first | done | fail))) (by assumption) (by kernel_rfl)))) ?_; simp only [Act.put, List.setIfInBounds_toArray, List.set_cons_zero, List.set_cons_succ]; refine RS_take (i := 4) rfl (by decide +kernel) (fun _ _ _ h => h) (by first | (intro x hx; (repeat (first | exact hx | apply mS)); done) | ((repeat (refine List.forall_mem_cons.2 ⟨(by (repeat (first | assumption | (with_reducible exact mZ) | apply mS)); first | done | fail), ?_⟩)); intro x hx; first | (cases hx; done) | ((repeat (first | exact hx | apply mS)); done))) (stab_call (by rfl) (fun w => (by go_simp; try with_reducible rfl)) (fun L w hL hM => (starq (HMO.out w) hM))) ?_; simp only [Act.put, List.setIfInBounds_toArray, List.set_cons_zero, List.set_cons_succ]; refine RS_take (i := 5) rfl (by decide +kernel) (fun _ _ _ h => h) (by first | (intro x hx; (repeat (first | exact hx | apply mS)); done) | ((repeat (refine List.forall_mem_cons.2 ⟨(by (repeat (first | assumption | (with_reducible exact mZ) | apply mS)); first | done | fail), ?_⟩)); intro x hx; first | (cases hx; done) | ((repeat (first | exact hx | apply mS)); done))) (stab_pure (by rfl) (fun w => (by go_simp; try with_reducible rfl))) ?_; simp only [Act.put, List.setIfInBounds_toArray, List.set_cons_zero, List.set_cons_succ]; refine RS_done (by decide +kernel) (.inl (by first | (intro x hx; (repeat (first | exact hx | apply mS)); done) | ((repeat (refine List.forall_mem_cons.2 ⟨(by (repeat (first | assumption | (with_reducible exact mZ) | apply mS)); first | done | fail), ?_⟩)); intro x hx; first | (cases hx; done) | ((repeat (first | exact hx | apply mS)); done)))) (fun w hM => ?_))
        go_wp2
        go_roundw
        case rel => exact ⟨k + 1, by omega, by go_num, rfl, HS2.out, hM.sub (by repeat (first | exact List.Sublist.refl _ | apply List.Sublist.cons))⟩
        case measure => simp [intOf]; omega
    · have hfb := HS.out
      rw [List.drop_of_length_le (by rw [HL.out]; omega)] at hfb
      have hv2 := HV.out
      rw [← hfb] at hv2
      simp only [firstBad, ne_eq, not_true_eq_false, if_false] at hv2
      have HSM : Hid ((if 32768 < sumP l then (5 : Int) else 0) = V) := hv2
      clear hfb hv2
      generalize sumP l = sm at HSZ HSM
      by_cases c3 : 32768 < sm
      · have c3' : decide (32768 < sm) = true := by simpa using c3
        go_wp2_with (first | (first | ((with_reducible refine at_load' ?_); (refine BigFrame.wpList_want (by rfl) fun K hK => ws_load hM rfl rfl (by (repeat (first | assumption | (with_reducible exact mZ) | apply mS)); first | done | fail) (n := 2) (by rfl) (by decide +kernel) (hK _ _ ?_); clear hK K)) | fail) | (go_at_call 100; have hM0 := hM; clear hM; (first | (with_reducible refine (HSZ.out _ _ hM0 (by (repeat (first | assumption | (with_reducible exact mZ) | apply mS)); first | done | fail)).mono ?_) | fail); clear hM0; rintro _ w ⟨rfl, hM⟩))
        go_ret
        exact ⟨ret_int (by rw [← HSM.out, if_pos c3]), hM.sel (by repeat (first | (with_reducible exact Sel.refl) | (with_reducible exact Take.head) | (with_reducible apply Take.tail) | (with_reducible apply Sel.cons) | (with_reducible apply Sel.drop)))⟩
      · have c3' : decide (32768 < sm) = false := by simpa using c3
        go_wp2_with (first | (first | ((with_reducible refine at_load' ?_); (refine BigFrame.wpList_want (by rfl) fun K hK => ws_load hM rfl rfl (by (repeat (first | assumption | (with_reducible exact mZ) | apply mS)); first | done | fail) (n := 2) (by rfl) (by decide +kernel) (hK _ _ ?_); clear hK K)) | fail) | (go_at_call 100; have hM0 := hM; clear hM; (first | (with_reducible refine (HSZ.out _ _ hM0 (by (repeat (first | assumption | (with_reducible exact mZ) | apply mS)); first | done | fail)).mono ?_) | fail); clear hM0; rintro _ w ⟨rfl, hM⟩))
        go_ret
        exact ⟨ret_int (by rw [← HSM.out, if_neg (by omega)]), hM.sel (by repeat (first | (with_reducible exact Sel.refl) | (with_reducible exact Take.head) | (with_reducible apply Take.tail) | (with_reducible apply Sel.cons) | (with_reducible apply Sel.drop)))⟩
set_option maxRecDepth 100000 in
set_option maxHeartbeats 4000000 in
theorem ntext_star {F : List SProp} (lv : Int) (A : Option Addr) (n c : Nat) (l : List Pt) (h32 : ok32 l) (hlv : lv ≤ 1000) (hb : ∀ p ∈ l, p.2 ≤ 1000000) (hn : n ≤ 1000) (w : World) (hM : Star F w) (hF : rowE 33 A n (pvs l) ∈ F) :
    Calls Try.prog 32 #[.agg (ndC lv A n c)] w fun r w' => r = .returned (.string ⟨(textN (lv, l)).toArray⟩) ∧ Star F w' := by
  have hlen := pvs_row (hM.row hF) h32
  have HE : Hid (encNums [lv, (n : Int)] ++ encPs l = textN (lv, l)) := by show _ = _; rw [textN, encNums_cons, encNums_sing, hlen, List.append_assoc]
  have q1 := encNums_len [lv, (n : Int)]
  simp only [List.length_cons, List.length_nil] at q1
  have H1 : Hid (∀ (L : List SProp) (g : Nat) (w : World), Star L w → rowE 1 (some ⟨g, 0, none⟩) 2 (ivs [lv, (n : Int)]) ∈ L → Calls Try.prog 55 #[.slice (some ⟨g, 0, none⟩) 2 2] w fun r w' => r = .returned (.string ⟨(encNums [lv, (n : Int)]).toArray⟩) ∧ Star L w') := fun L g w hM hx => nums_star [lv, (n : Int)] _ 2 2 (by intro x hx; simp only [List.mem_cons, List.not_mem_nil, or_false] at hx; omega) (by omega) w hM hx
  generalize encNums [lv, (n : Int)] = s0 at HE q1 H1
  have HL := Lib.hid hlen
  have H32 := Lib.hid h32
  have HB := Lib.hid hb
  clear hlen hb
  go_enter Try.func32, Try.ntmps32
  go_wp2_with (first | (first | ((with_reducible refine at_box' ?_); (have hM0 := hM; clear hM; refine BigFrame.wpList_want (by rfl) fun K hK => ws_box hM0 rfl rfl (cs := ndC lv A n c) rfl (fun gx w hM => hK _ _ ?_); clear hM0 hK K)) | fail) | (first | ((with_reducible refine at_load' ?_); (refine BigFrame.wpList_want (by rfl) fun K hK => ws_load1 hM rfl rfl (by (repeat (first | assumption | (with_reducible exact mZ) | apply mS)); first | done | fail) (by first | rfl | assumption) (by decide +kernel) (hK _ _ ?_); clear hK K)) | fail) | (first | ((with_reducible refine at_slice' ?_); (have hM0 := hM; clear hM; refine BigFrame.wpList_want (by rfl) fun K hK => ws_slice_row hM0 (n := 2) rfl 3 1 (.int .i64 0) [iv lv, iv n] Try.underlying24 (by kernel_rfl) rfl (by simp [Value.cells, iv, sv, bv]) (by rfl) (by decide) (cs := ivs [lv, (n : Int)]) (by rfl) (fun g11 w hM => hK _ _ ?_); clear hM0 hK K)) | fail) | (go_at_call 55; have hM0 := hM; clear hM; (first | (with_reducible refine (H1.out _ g11 _ hM0 (by (repeat (first | assumption | (with_reducible exact mZ) | apply mS)); first | done | fail)).mono ?_) | fail); clear hM0; rintro _ w ⟨rfl, hM⟩))
  go_loopw [3, 16] (fun v i wr => ∃ k : Nat, k ≤ n ∧ i = .int .i64 k ∧ v = .string ⟨(s0 ++ encPs (l.take k)).toArray⟩ ∧ Star F wr) (fun _ i _ => n - (intOf i).toNat)
  case atStart => exact ⟨0, by omega, rfl, by simp [encPs], hM.sub (by repeat (first | exact List.Sublist.refl _ | apply List.Sublist.cons))⟩
  case round =>
    clear hM
    obtain ⟨k, hk, rfl, rfl, hM⟩ := hrel
    by_cases hlt : k < n
    · obtain ⟨ad, d, rfl, hc, hg, ht⟩ := Rd.elems (f := pcs) (hM.row hF) (fun x hx => pcs_len (h32 x hx)) (by omega) hlt
      have hdm := List.mem_of_getElem? hg
      have hd1 := h32 d hdm
      have HD := Lib.hid hd1
      have hd2 := HB.out d hdm
      have q2 := encPs_len (l.take k) fun p hp => by have := h32 p (List.mem_of_mem_take hp); omega
      have hlk : (l.take k).length ≤ 1000 := by rw [List.length_take]; omega
      have HT : Hid (encPs (l.take (k + 1)) = encPs (l.take k) ++ (d.1 ++ encN d.2)) := by show _ = _; rw [ht, encPs_app, encPs_one]
      generalize encPs (l.take k) = s1 at HT q2
      obtain ⟨x, hx⟩ : ∃ x, d.2 = x := ⟨_, rfl⟩
      have HX : Hid ((pcs d).toArray[32]? = some (.int .i64 x)) := by show _ = _; rw [← hx]; exact pcs_32 HD.out
      rw [hx] at hd2 HT
      have q3 := encN_len x
      have H2 : Hid (∀ (L : List SProp) (g : Nat) (w : World), Star L w → rowE 1 (some ⟨g, 0, none⟩) 1 (ivs [x]) ∈ L → Calls Try.prog 55 #[.slice (some ⟨g, 0, none⟩) 1 1] w fun r w' => r = .returned (.string ⟨(encN x).toArray⟩) ∧ Star L w') := fun L g w hM hx2 => by
        have := nums_star [x] _ 1 1 (by intro y hy; rw [List.mem_singleton.1 hy]; omega) (by omega) w hM hx2
        rwa [encNums_sing] at this
      generalize encN x = s2 at HT q3 H2
      have hs1 : s1.length ≤ 41000 := by omega
      have HO := Lib.hid (fun (L : List SProp) (w : World) (hM : Star L w) => obytes_star d.1 hd1 w hM)
      clear ht hg hdm hlk hx h32
      have u1 : ¬ (9223372036854775807 < 32 + s2.length) := by omega
      have u2 : ¬ (9223372036854775807 < s0.length + s1.length + (32 + s2.length)) := by omega
      go_wp2_with (first | ((with_reducible refine at_load' ?_); refine BigFrame.wpList_want (by rfl) fun K hK => ws_load_at rfl rfl (pcs d) hc (n := 33) (pcs_len HD.out) (by decide +kernel) (hK _ _ ?_); clear hK K) | (first | ((with_reducible refine at_alloc' ?_); (have hM0 := hM; clear hM; refine BigFrame.wpList_want (by rfl) fun K hK => ws_alloc hM0 (t := 64) rfl (pcs (z32, 0)).toArray info_pt (fun g5 w hM => hK _ _ ?_); clear hM0 hK K)) | fail) | (first | ((with_reducible refine at_store' ?_); (have hM0 := hM; clear hM; refine BigFrame.wpList_want (by rfl) fun K hK => ws_store hM0 rfl rfl rfl (by (repeat (first | (with_reducible exact Take.head) | apply Take.tail)); first | done | fail) (n := 33) (by exact pcs_sz HD.out) (by exact pcs_sz z32_32) (by kernel_rfl) (by exact pcs_oneA _) (fun w hM => hK _ _ ?_); clear hM0 hK K)) | fail))
      (refine region_RS ([cellsE g5 64 (pcs d).toArray]) [] (by kernel_rfl) hM ?_; clear hM; change RS _ _ _ _ _ _ 11 (Array.replicate 11 false) _ _; refine RS_take (i := 0) rfl (by decide +kernel) (fun _ _ _ h => h) (by first | (intro x hx; (repeat (first | exact hx | apply mS)); done) | ((repeat (refine List.forall_mem_cons.2 ⟨(by (repeat (first | assumption | (with_reducible exact mZ) | apply mS)); first | done | fail), ?_⟩)); intro x hx; first | (cases hx; done) | ((repeat (first | exact hx | apply mS)); done))) (stab_pure (by rfl) (fun w => (by go_simp; try with_reducible rfl))) ?_; simp only [Act.put, List.setIfInBounds_toArray, List.set_cons_zero, List.set_cons_succ]; refine RS_take (i := 1) rfl (by decide +kernel) (fun _ _ _ h => h) (by first | (intro x hx; (repeat (first | exact hx | apply mS)); done) | ((repeat (refine List.forall_mem_cons.2 ⟨(by (repeat (first | assumption | (with_reducible exact mZ) | apply mS)); first | done | fail), ?_⟩)); intro x hx; first | (cases hx; done) | ((repeat (first | exact hx | apply mS)); done))) (stab_pure (by rfl) (fun w => (by go_simp; try with_reducible rfl))) ?_; simp only [Act.put, List.setIfInBounds_toArray, List.set_cons_zero, List.set_cons_succ]; refine RS_take (i := 2) rfl (by decide +kernel) (fun _ _ _ h => h) (by first | (intro x hx; (repeat (first | exact hx | apply mS)); done) | ((repeat (refine List.forall_mem_cons.2 ⟨(by (repeat (first | assumption | (with_reducible exact mZ) | apply mS)); first | done | fail), ?_⟩)); intro x hx; first | (cases hx; done) | ((repeat (first | exact hx | apply mS)); done))) (stab_read (by rfl) (fun L w hL hM => (ex_load_mid hM rfl rfl (hL _ (by (repeat (first | assumption | (with_reducible exact mZ) | apply mS)); first | done | fail)) (bvs d.1) (pcs_id d) (n := 32) (by rw [bvs_len]; exact HD.out) (by decide +kernel)))) ?_; simp only [Act.put, List.setIfInBounds_toArray, List.set_cons_zero, List.set_cons_succ]; refine RS_take (i := 3) rfl (by decide +kernel) (fun _ _ _ h => h) (by first | (intro x hx; (repeat (first | exact hx | apply mS)); done) | ((repeat (refine List.forall_mem_cons.2 ⟨(by (repeat (first | assumption | (with_reducible exact mZ) | apply mS)); first | done | fail), ?_⟩)); intro x hx; first | (cases hx; done) | ((repeat (first | exact hx | apply mS)); done))) (stab_call (by rfl) (fun w => (by go_simp; try with_reducible rfl)) (fun L w hL hM => (HO.out _ w hM))) ?_; simp only [Act.put, List.setIfInBounds_toArray, List.set_cons_zero, List.set_cons_succ]; refine RS_take (i := 4) rfl (by decide +kernel) (fun _ _ _ h => h) (by first | (intro x hx; (repeat (first | exact hx | apply mS)); done) | ((repeat (refine List.forall_mem_cons.2 ⟨(by (repeat (first | assumption | (with_reducible exact mZ) | apply mS)); first | done | fail), ?_⟩)); intro x hx; first | (cases hx; done) | ((repeat (first | exact hx | apply mS)); done))) (stab_pure (by rfl) (fun w => (by go_simp; try with_reducible rfl))) ?_; simp only [Act.put, List.setIfInBounds_toArray, List.set_cons_zero, List.set_cons_succ]; refine RS_take (i := 5) rfl (by decide +kernel) (fun _ _ _ h => h) (by first | (intro x hx; (repeat (first | exact hx | apply mS)); done) | ((repeat (refine List.forall_mem_cons.2 ⟨(by (repeat (first | assumption | (with_reducible exact mZ) | apply mS)); first | done | fail), ?_⟩)); intro x hx; first | (cases hx; done) | ((repeat (first | exact hx | apply mS)); done))) (stab_read (by rfl) (fun L w hL hM => (ex_load1 hM rfl rfl (hL _ (by (repeat (first | assumption | (with_reducible exact mZ) | apply mS)); first | done | fail)) HX.out (by decide +kernel)))) ?_; simp only [Act.put, List.setIfInBounds_toArray, List.set_cons_zero, List.set_cons_succ]; refine RS_one (i := 6) (by decide +kernel) rfl (by rfl) (.inl (by first | (intro x hx; (repeat (first | exact hx | apply mS)); done) | ((repeat (refine List.forall_mem_cons.2 ⟨(by (repeat (first | assumption | (with_reducible exact mZ) | apply mS)); first | done | fail), ?_⟩)); intro x hx; first | (cases hx; done) | ((repeat (first | exact hx | apply mS)); done)))) (fun w K hM0 hK => ?_); refine ws_slice_row hM0 (n := 1) rfl 3 1 (.int .i64 0) [iv x] Try.underlying24 (by kernel_rfl) rfl (by simp [Value.cells, iv, sv, bv]) (by rfl) (by decide) (cs := ivs [x]) (by rfl) (fun g6 w hM => hK _ _ _ hM ?_); clear hM hM0 hK K; simp only [Act.put, List.setIfInBounds_toArray, List.set_cons_zero, List.set_cons_succ]; refine RS_one (i := 7) (by decide +kernel) rfl (by rfl) (.inl (by first | (intro x hx; (repeat (first | exact hx | apply mS)); done) | ((repeat (refine List.forall_mem_cons.2 ⟨(by (repeat (first | assumption | (with_reducible exact mZ) | apply mS)); first | done | fail), ?_⟩)); intro x hx; first | (cases hx; done) | ((repeat (first | exact hx | apply mS)); done)))) (fun w K hM0 hK => ?_); refine ws_call (by go_simp; try with_reducible rfl) (H2.out _ g6 w hM0 (by (repeat (first | assumption | (with_reducible exact mZ) | apply mS)); first | done | fail)) (fun r w2 hR => ?_); obtain ⟨rfl, hM⟩ := hR; refine ⟨_, rfl, hK _ _ _ hM ?_⟩; clear hM hM0 hK K; simp only [Act.put, List.setIfInBounds_toArray, List.set_cons_zero, List.set_cons_succ]; refine RS_take (i := 8) rfl (by decide +kernel) (fun _ _ _ h => h) (by first | (intro x hx; (repeat (first | exact hx | apply mS)); done) | ((repeat (refine List.forall_mem_cons.2 ⟨(by (repeat (first | assumption | (with_reducible exact mZ) | apply mS)); first | done | fail), ?_⟩)); intro x hx; first | (cases hx; done) | ((repeat (first | exact hx | apply mS)); done))) (stab_pure (by rfl) (fun w => (by go_simp; try with_reducible rfl))) ?_; simp only [Act.put, List.setIfInBounds_toArray, List.set_cons_zero, List.set_cons_succ]; refine RS_take (i := 9) rfl (by decide +kernel) (fun _ _ _ h => h) (by first | (intro x hx; (repeat (first | exact hx | apply mS)); done) | ((repeat (refine List.forall_mem_cons.2 ⟨(by (repeat (first | assumption | (with_reducible exact mZ) | apply mS)); first | done | fail), ?_⟩)); intro x hx; first | (cases hx; done) | ((repeat (first | exact hx | apply mS)); done))) (stab_pure (by rfl) (fun w => (by go_simp; try with_reducible rfl))) ?_; simp only [Act.put, List.setIfInBounds_toArray, List.set_cons_zero, List.set_cons_succ]; refine RS_take (i := 10) rfl (by decide +kernel) (fun _ _ _ h => h) (by first | (intro x hx; (repeat (first | exact hx | apply mS)); done) | ((repeat (refine List.forall_mem_cons.2 ⟨(by (repeat (first | assumption | (with_reducible exact mZ) | apply mS)); first | done | fail), ?_⟩)); intro x hx; first | (cases hx; done) | ((repeat (first | exact hx | apply mS)); done))) (stab_pure (by rfl) (fun w => (by go_simp; try with_reducible rfl))) ?_; simp only [Act.put, List.setIfInBounds_toArray, List.set_cons_zero, List.set_cons_succ]; refine RS_done (by decide +kernel) (.inl (by first | (intro x hx; (repeat (first | exact hx | apply mS)); done) | ((repeat (refine List.forall_mem_cons.2 ⟨(by (repeat (first | assumption | (with_reducible exact mZ) | apply mS)); first | done | fail), ?_⟩)); intro x hx; first | (cases hx; done) | ((repeat (first | exact hx | apply mS)); done)))) (fun w hM => ?_))
      go_wp2
      go_roundw
      case rel => exact ⟨k + 1, by omega, by go_num, (by first | (rw [HT.out]; done) | (rw [HT.out]; simp)), hM.sub (by repeat (first | exact List.Sublist.refl _ | apply List.Sublist.cons))⟩
      case measure => simp [intOf]; omega
    · go_wp2
      go_ret
      exact ⟨ret_str (by rw [List.take_of_length_le (by rw [HL.out]; omega)]; exact HE.out), hM⟩
end Go.Proofs.Ytlhedbjjlomniaa
set_option linter.unusedSimpArgs false
set_option linter.unusedVariables false
namespace Go.Proofs.Ytlhedbjjlomniaa
open Go.RowKit
attribute [local go_sem] extract_mid extract_drop bget bsize wrap64_u8 i64_u8 u64_u8 bappend
theorem list32 {l : List UInt8} (h : l.length = 32) : ∃ f : Nat → UInt8, l = (List.range 32).map f := by
  refine ⟨fun i => l.getD i 0, List.ext_getElem (by simp [h]) fun i h1 h2 => ?_⟩
  simp [List.getD_eq_getElem?_getD, List.getElem?_eq_getElem h1]
theorem build_pt (id : List UInt8) (h : id.length = 32) (x : Int) (w : World) : (Instr.build 64 #[(0, .agg (bvs id).toArray), (1, .int .i64 x)]).run Try.prog w = .ok (.agg (pcs (id, x)).toArray) w := by
  obtain ⟨f, rfl⟩ := list32 h
  unfold pcs
  kernel_rfl
theorem ex_build {P : Program} {w : World} {o : Oper} {a : Act} {t : TypeId} {parts : Array (Nat × Operand)} (ho : o.op = .build t parts) {v : Value} (h : (Instr.build t (parts.map fun p => (p.1, a.eval p.2))).run P w = .ok v w) : (execOp a.eval o).run P w = .ok (.value v) w := by
  unfold execOp
  simp only [ho]
  simp [h]
def fixP (p : Pt) : Pt := (idOf p.1, p.2)
theorem idOf_32 {id : List UInt8} (h : id.length = 32) : idOf id = id := by
  unfold idOf over
  rw [z32_len, List.take_of_length_le (by omega), List.drop_of_length_le (by rw [z32_len]; omega), List.append_nil]
theorem fix_id {l : List Pt} (h : ok32 l) : l.map fixP = l := by
  rw [List.map_congr_left (g := id) fun p hp => ?_, List.map_id]
  unfold fixP
  rw [idOf_32 (h p hp)]
  rfl
theorem pts_good {N : Nat} {l u : List UInt8} {e f : Int} {o : List Pt} (h : mPts N [] l e = (o, u, f)) : o.length ≤ N ∧ (f = 0 → ok32 o ∧ ∀ p ∈ o, 0 ≤ p.2 ∧ p.2 ≤ 32768) := by
  have hlen : ∀ (n : Nat) (o1 : List Pt) l e, (mPts n o1 l e).1.length ≤ o1.length + n := by
    intro n
    induction n with
    | zero => intro o1 l e; simp [mPts]
    | succ n ih =>
      intro o1 l e
      simp only [mPts]
      split
      · refine Nat.le_trans (ih _ _ _) ?_
        simp; omega
      · simp
  refine ⟨by have := hlen N [] l e; rw [h] at this; simpa using this, fun hf => ?_⟩
  subst hf
  by_cases he : e = 0
  · subst he
    obtain ⟨v, rfl, _, _, h4⟩ := inv_pts _ _ _ _ _ h
    exact ⟨fun p hp => (h4 p hp).1, fun p hp => (h4 p hp).2⟩
  · have h5 := stay_pts N [] l e he
    rw [h] at h5
    simp only [Prod.mk.injEq] at h5
    exact absurd h5.2.symm he
def PN (F : List SProp) (s : List UInt8) (r : Ending) (w' : World) : Prop := ∃ A c, r = .returned (.tuple #[.agg (ndC (parseN s).1.1 A (parseN s).1.2.length c), .int .i64 (parseN s).2]) ∧ Star (rowE 33 A (parseN s).1.2.length (pvs (parseN s).1.2) :: F) w'
theorem PN_none {F : List SProp} {s : List UInt8} {n : Int} {w : World} (h : parseN s = (noN, n)) (hM : Star F w) : PN F s (.returned (.tuple #[.agg (ndC 0 none 0 0), .int .i64 n])) w := by
  unfold PN
  rw [h]
  exact ⟨none, 0, rfl, hM.nilrow 33⟩
theorem info_nd : (Try.prog.info? 52).map (fun i => i.zero) = some (some (.agg (ndC 0 none 0 0))) := by kernel_rfl
set_option maxRecDepth 100000 in
set_option maxHeartbeats 8000000 in
theorem nparse_star {F : List SProp} (s : List UInt8) (hs : s.length ≤ 140737488352000) (w : World) (hM : Star F w) : Calls Try.prog 28 #[.string ⟨s.toArray⟩] w (PN F s) := by
  obtain ⟨lv, u1, e1, h1⟩ : ∃ n u f, mInt s 0 8 = (n, u, f) := ⟨_, _, _, rfl⟩
  obtain ⟨kk, u2, e2, h2⟩ : ∃ n u f, mInt u1 e1 8 = (n, u, f) := ⟨_, _, _, rfl⟩
  have hr := mInt_range u1 e1 8
  rw [h2] at hr
  have hr1 := mInt_range s 0 8
  rw [h1] at hr1
  simp only at hr hr1
  obtain ⟨N, rfl⟩ : ∃ N : Nat, kk = N := ⟨kk.toNat, by omega⟩
  have hN8 : N ≤ 8 := by omega
  obtain ⟨o, u, f, h3⟩ : ∃ n u f, mPts N [] u2 e2 = (n, u, f) := ⟨_, _, _, rfl⟩
  obtain ⟨uc, c, h4⟩ : ∃ u' c', mClose u f = (u', c') := ⟨_, _, rfl⟩
  have hv : parseN s = finN (lv, o) c := by
    have hp : pNode s 0 = ((lv, o), u, f) := by
      unfold pNode
      simp only [Par.bind, pInt_, h1, h2, Int.toNat_natCast, h3]
      rfl
    unfold parseN
    rw [hp]
    simp only [h4]
  have hg := pts_good h3
  have hcf : c = 0 → f = 0 := by
    intro hc
    subst hc
    unfold mClose mFail at h4
    split at h4
    · simp only [Prod.mk.injEq] at h4; exact h4.2
    · split at h4
      · simp at h4
      · simp only [Prod.mk.injEq] at h4; exact h4.2
  have HV := Lib.hid hv
  have H1 := Lib.hid h1
  have H2 := Lib.hid h2
  have H3 := Lib.hid h3
  have H4 := Lib.hid h4
  have HG := Lib.hid hg
  have HCF := Lib.hid hcf
  have hlv : 0 ≤ lv ∧ lv ≤ 8 := by omega
  clear hv h1 h2 h3 h4 hg hcf hr hr1
  have tok1 : True := trivial
  go_enter Try.func28, Try.ntmps28
  go_wp2_with (first | (have _t := tok1; (first | ((with_reducible refine at_alloc' ?_); (have hM0 := hM; clear hM; refine BigFrame.wpList_want (by rfl) fun K hK => ws_alloc hM0 (t := 52) rfl (ndC 0 none 0 0) info_nd (fun g2 w hM => hK _ _ ?_); clear hM0 hK K)) | fail); clear tok1) | (first | ((with_reducible refine at_alloc' ?_); (have hM0 := hM; clear hM; refine BigFrame.wpList_want (by rfl) fun K hK => ws_alloc hM0 (t := 52) rfl (ndC 0 none 0 0) info_nd (fun g5 w hM => hK _ _ ?_); clear hM0 hK K)) | fail) | (first | ((with_reducible refine at_store' ?_); (have hM0 := hM; clear hM; refine BigFrame.wpList_want (by rfl) fun K hK => ws_store hM0 rfl rfl rfl (by (repeat (first | (with_reducible exact Take.head) | apply Take.tail)); first | done | fail) (n := 2) (by rfl) (by rfl) (by kernel_rfl) (by simp [Value.oneCell']) (fun w hM => hK _ _ ?_); clear hM0 hK K)) | fail) | (go_at_call 59; have hM0 := hM; clear hM; (first | (with_reducible refine (sOpen _ hM0).mono ?_) | fail); clear hM0; rintro _ w ⟨b, rfl, hM⟩) | (go_at_call 60; have hM0 := hM; clear hM; (first | (with_reducible refine (sInt (by omega) H1.out hM0 (by (repeat (first | (with_reducible exact Take.head) | apply Take.tail)); first | done | fail)).mono ?_) | fail); clear hM0; rintro _ w ⟨rfl, hM⟩) | (go_at_call 60; have hM0 := hM; clear hM; (first | (with_reducible refine (sInt (by omega) H2.out hM0 (by (repeat (first | (with_reducible exact Take.head) | apply Take.tail)); first | done | fail)).mono ?_) | fail); clear hM0; rintro _ w ⟨rfl, hM⟩))
  replace hM := hM.nilown 64 33
  go_loopw [6] (fun i wr => ∃ (j m : Nat) (u3 : List UInt8) (f3 : Int) (o3 : List Pt) (A : Option Addr) (ca : Nat), j + m = N ∧ Hid (m = o3.length) ∧ i = .int .i64 j ∧ Hid (mPts j o3 u3 f3 = (o, u, f)) ∧ Star (ownE 64 33 A m ca (pvs (o3.map fixP)) :: cellsE g5 52 (ndC lv A m ca) :: balE b u3 f3 :: cellsE g2 52 (ndC 0 none 0 0) :: F) wr) (fun i _ => (intOf i).toNat)
  case atStart => exact ⟨N, 0, u2, e2, [], none, 0, by omega, rfl, rfl, H3.out, (hM.sel (by repeat (first | (with_reducible exact Sel.refl) | (with_reducible exact Take.head) | (with_reducible apply Take.tail) | (with_reducible apply Sel.cons) | (with_reducible apply Sel.drop))) : Star (ownE 64 33 none 0 0 [] :: cellsE g5 52 #[.int .i64 lv, .slice none 0 0] :: balE b u2 e2 :: cellsE g2 52 (ndC 0 none 0 0) :: F) _)⟩
  case round =>
    clear hM
    obtain ⟨j, m, u3, f3, o3, A, ca, hj, hm3, rfl, hml, hM⟩ := hrel
    by_cases hgo : 0 < j ∧ f3 = 0
    · obtain ⟨hj0, rfl⟩ := hgo
      obtain ⟨i, rfl⟩ : ∃ i, j = i + 1 := ⟨j - 1, by omega⟩
      obtain ⟨id, u4, f4, hb4⟩ : ∃ s u f, mBytes u3 0 32 = (s, u, f) := ⟨_, _, _, rfl⟩
      obtain ⟨x, u5, f5, hb5⟩ : ∃ s u f, mInt u4 f4 32768 = (s, u, f) := ⟨_, _, _, rfl⟩
      have HB4 := Lib.hid hb4
      have HB5 := Lib.hid hb5
      have HN : Hid (mPts i (o3 ++ [(id, x)]) u5 f5 = (o, u, f)) := by
        have := hml.out
        unfold mPts at this
        rw [if_pos rfl, hb4] at this
        simp only [hb5] at this
        exact this
      have hid := idOf_len id
      have HI := Lib.hid hid
      clear hb4 hb5
      have HBLD : Hid (∀ w, (Instr.build 64 #[(0, .agg (bvs (idOf id)).toArray), (1, .int .i64 x)]).run Try.prog w = .ok (.agg (pcs (idOf id, x)).toArray) w) := build_pt (idOf id) hid x
      have HMP : Hid (pvs ((o3 ++ [(id, x)]).map fixP) = pvs (o3.map fixP) ++ pvs [(idOf id, x)]) := by show _ = _; rw [List.map_append, pvs_app]; rfl
      have HSZ : Hid ((pcs (idOf id, x)).length = 33) := pcs_len hid
      have HON : Hid (∀ v ∈ pvs [(idOf id, x)], v.oneCell' = true) := pvs_cells _
      clear hid
      go_wp2_with (first | (go_at_call 73; have hM0 := hM; clear hM; (first | (with_reducible refine (sErr hM0 (by (repeat (first | assumption | (with_reducible exact mZ) | apply mS)); first | done | fail)).mono ?_) | fail); clear hM0; rintro _ w ⟨rfl, hM⟩) | (go_at_call 61; have hM0 := hM; clear hM; (first | (with_reducible refine (sID HB4.out hM0 (by (repeat (first | (with_reducible exact Take.head) | apply Take.tail)); first | done | fail)).mono ?_) | fail); clear hM0; rintro _ w ⟨rfl, hM⟩) | (first | ((with_reducible refine at_alloc' ?_); (have hM0 := hM; clear hM; refine BigFrame.wpList_want (by rfl) fun K hK => ws_alloc hM0 (t := 23) rfl (bvs z32).toArray info_id (fun g7 w hM => hK _ _ ?_); clear hM0 hK K)) | fail) | (first | ((with_reducible refine at_store' ?_); (have hM0 := hM; clear hM; refine BigFrame.wpList_want (by rfl) fun K hK => ws_store hM0 rfl rfl rfl (by (repeat (first | (with_reducible exact Take.head) | apply Take.tail)); first | done | fail) (n := 32) (by simp [bvs_len, idOf_len]) (by simp [bvs_len, z32_len]) (by kernel_rfl) (by simpa using bvs_oneCell _) (fun w hM => hK _ _ ?_); clear hM0 hK K)) | fail))
      (refine region_RS ([cellsE g5 52 (ndC lv A m ca), cellsE g7 23 (bvs (idOf id)).toArray]) [9] (by kernel_rfl) hM ?_; clear hM; change RS _ _ _ _ _ _ 10 (Array.replicate 10 false) _ _; refine RS_take (i := 0) rfl (by decide +kernel) (fun _ _ _ h => h) (by first | (intro x hx; (repeat (first | exact hx | apply mS)); done) | ((repeat (refine List.forall_mem_cons.2 ⟨(by (repeat (first | assumption | (with_reducible exact mZ) | apply mS)); first | done | fail), ?_⟩)); intro x hx; first | (cases hx; done) | ((repeat (first | exact hx | apply mS)); done))) (stab_pure (by rfl) (fun w => (by go_simp; try with_reducible rfl))) ?_; simp only [Act.put, List.setIfInBounds_toArray, List.set_cons_zero, List.set_cons_succ]; refine RS_take (i := 1) rfl (by decide +kernel) (fun _ _ _ h => h) (by first | (intro x hx; (repeat (first | exact hx | apply mS)); done) | ((repeat (refine List.forall_mem_cons.2 ⟨(by (repeat (first | assumption | (with_reducible exact mZ) | apply mS)); first | done | fail), ?_⟩)); intro x hx; first | (cases hx; done) | ((repeat (first | exact hx | apply mS)); done))) (stab_read (by rfl) (fun L w hL hM => (ex_load1 (v := .slice A m ca) hM rfl rfl (hL _ (by (repeat (first | assumption | (with_reducible exact mZ) | apply mS)); first | done | fail)) rfl (by decide +kernel)))) ?_; simp only [Act.put, List.setIfInBounds_toArray, List.set_cons_zero, List.set_cons_succ]; refine RS_take (i := 2) rfl (by decide +kernel) (fun _ _ _ h => h) (by first | (intro x hx; (repeat (first | exact hx | apply mS)); done) | ((repeat (refine List.forall_mem_cons.2 ⟨(by (repeat (first | assumption | (with_reducible exact mZ) | apply mS)); first | done | fail), ?_⟩)); intro x hx; first | (cases hx; done) | ((repeat (first | exact hx | apply mS)); done))) (stab_read (by rfl) (fun L w hL hM => (ex_load hM rfl rfl (hL _ (by (repeat (first | assumption | (with_reducible exact mZ) | apply mS)); first | done | fail)) (n := 32) (by simp [bvs_len, idOf_len]) (by decide +kernel)))) ?_; simp only [Act.put, List.setIfInBounds_toArray, List.set_cons_zero, List.set_cons_succ]; refine RS_take (i := 3) rfl (by decide +kernel) (fun _ _ _ h => h) (by first | (intro x hx; (repeat (first | exact hx | apply mS)); done) | ((repeat (refine List.forall_mem_cons.2 ⟨(by (repeat (first | assumption | (with_reducible exact mZ) | apply mS)); first | done | fail), ?_⟩)); intro x hx; first | (cases hx; done) | ((repeat (first | exact hx | apply mS)); done))) (stab_pure (by rfl) (fun w => (by go_simp; try with_reducible rfl))) ?_; simp only [Act.put, List.setIfInBounds_toArray, List.set_cons_zero, List.set_cons_succ]; refine RS_one (i := 4) (by decide +kernel) rfl (by rfl) (.inl (by first | (intro x hx; (repeat (first | exact hx | apply mS)); done) | ((repeat (refine List.forall_mem_cons.2 ⟨(by (repeat (first | assumption | (with_reducible exact mZ) | apply mS)); first | done | fail), ?_⟩)); intro x hx; first | (cases hx; done) | ((repeat (first | exact hx | apply mS)); done)))) (fun w K hM0 hK => ?_); refine ws_call (by go_simp; try with_reducible rfl) (sInt (by omega) HB5.out hM0 (by (repeat (first | (with_reducible exact Take.head) | apply Take.tail)); first | done | fail)) (fun r w2 hR => ?_); obtain ⟨rfl, hM⟩ := hR; refine ⟨_, rfl, hK _ _ _ hM ?_⟩; clear hM hM0 hK K; simp only [Act.put, List.setIfInBounds_toArray, List.set_cons_zero, List.set_cons_succ]; refine RS_one (i := 5) (by decide +kernel) rfl (by rfl) (.inl (by first | (intro x hx; (repeat (first | exact hx | apply mS)); done) | ((repeat (refine List.forall_mem_cons.2 ⟨(by (repeat (first | assumption | (with_reducible exact mZ) | apply mS)); first | done | fail), ?_⟩)); intro x hx; first | (cases hx; done) | ((repeat (first | exact hx | apply mS)); done)))) (fun w K hM0 hK => ?_); refine ws_of_ex (ex_build rfl (v := .agg (pcs (idOf id, x)).toArray) (by simp only [List.map_toArray, List.map_cons, List.map_nil]; exact HBLD.out _)) (hK _ _ _ hM0 ?_); clear hM0 hK K; simp only [Act.put, List.setIfInBounds_toArray, List.set_cons_zero, List.set_cons_succ]; refine RS_one (i := 6) (by decide +kernel) rfl (by rfl) (.inl (by first | (intro x hx; (repeat (first | exact hx | apply mS)); done) | ((repeat (refine List.forall_mem_cons.2 ⟨(by (repeat (first | assumption | (with_reducible exact mZ) | apply mS)); first | done | fail), ?_⟩)); intro x hx; first | (cases hx; done) | ((repeat (first | exact hx | apply mS)); done)))) (fun w K hM0 hK => ?_); refine ws_slice_row hM0 (n := 1) rfl 64 33 (.agg (pcs (z32, 0)).toArray) [.agg (pcs (idOf id, x)).toArray] Try.underlying50 (by kernel_rfl) rfl (by simp [Value.cells, iv, sv, bv, HSZ.out]) (by rfl) (by decide) (cs := pvs [(idOf id, x)]) (by rfl) (fun g34 w hM => hK _ _ _ hM ?_); clear hM hM0 hK K; simp only [Act.put, List.setIfInBounds_toArray, List.set_cons_zero, List.set_cons_succ]; refine RS_one (i := 7) (by decide +kernel) rfl (by rfl) (.inl (by first | (intro x hx; (repeat (first | exact hx | apply mS)); done) | ((repeat (refine List.forall_mem_cons.2 ⟨(by (repeat (first | assumption | (with_reducible exact mZ) | apply mS)); first | done | fail), ?_⟩)); intro x hx; first | (cases hx; done) | ((repeat (first | exact hx | apply mS)); done)))) (fun w K hM0 hK => ?_); refine ws_append hM0 rfl rfl rfl 64 ((.agg (pcs (z32, 0)).toArray)) 33 40 Try.underlying50 (by kernel_rfl) (by exact pcs_sz z32_32) (by decide) (by (repeat (first | (with_reducible exact Take.head) | apply Take.tail)); first | done | fail) (by first | (apply Star.row hM0; (repeat (first | assumption | (with_reducible exact mZ) | apply mS)); done) | (apply Star.own hM0; (repeat (first | assumption | (with_reducible exact mZ) | apply mS)); done) | (apply Star.arr hM0; (focus ((repeat (first | assumption | (with_reducible exact mZ) | apply mS)); done)); assumption)) (HON.out) ((by omega)) (fun A1 c1 w hM hnil => hK _ _ _ hM ?_); clear hM hM0 hK K; simp only [Act.put, List.setIfInBounds_toArray, List.set_cons_zero, List.set_cons_succ]; refine RS_take (i := 8) rfl (by decide +kernel) (fun _ _ _ h => h) (by first | (intro x hx; (repeat (first | exact hx | apply mS)); done) | ((repeat (refine List.forall_mem_cons.2 ⟨(by (repeat (first | assumption | (with_reducible exact mZ) | apply mS)); first | done | fail), ?_⟩)); intro x hx; first | (cases hx; done) | ((repeat (first | exact hx | apply mS)); done))) (stab_pure (by rfl) (fun w => (by go_simp; try with_reducible rfl))) ?_; simp only [Act.put, List.setIfInBounds_toArray, List.set_cons_zero, List.set_cons_succ]; refine RS_one (i := 9) (by decide +kernel) rfl (by rfl) (.inl (by first | (intro x hx; (repeat (first | exact hx | apply mS)); done) | ((repeat (refine List.forall_mem_cons.2 ⟨(by (repeat (first | assumption | (with_reducible exact mZ) | apply mS)); first | done | fail), ?_⟩)); intro x hx; first | (cases hx; done) | ((repeat (first | exact hx | apply mS)); done)))) (fun w K hM0 hK => ?_); refine ws_store1 hM0 rfl rfl (by go_simp; rfl) (by first | rfl | assumption) (by (repeat (first | (with_reducible exact Take.head) | apply Take.tail)); first | done | fail) (by simp) (by kernel_rfl) (by rfl) (fun w hM => hK _ _ _ hM ?_); clear hM hM0 hK K; simp only [Act.put, List.setIfInBounds_toArray, List.set_cons_zero, List.set_cons_succ]; refine RS_done (by decide +kernel) (.inr (by decide +kernel)) (fun w hM => ?_))
      go_wp2
      go_roundw
      case rel => exact ⟨i, m + 1, u5, f5, o3 ++ [(id, x)], A1, c1, by omega, (by show _ = _; rw [List.length_append, ← hm3.out]; rfl), by go_num, HN.out, by rw [HMP.out]; exact hM.sel (by repeat (first | (with_reducible exact Sel.refl) | (with_reducible exact Take.head) | (with_reducible apply Take.tail) | (with_reducible apply Sel.cons) | (with_reducible apply Sel.drop)))⟩
      case measure => simp [intOf]
    · have hend : o3 = o ∧ u3 = u ∧ f3 = f := by
        have := hml.out
        cases j with
        | zero => simpa [mPts] using this
        | succ i =>
          have hf2 : f3 ≠ 0 := fun h => hgo ⟨by omega, h⟩
          simpa [mPts, hf2] using this
      obtain ⟨rfl, rfl, rfl⟩ := hend
      have hno := hm3.out
      replace hM := (hM.take (x := ownE 64 33 A m ca (pvs (o3.map fixP))) (by (repeat (first | (with_reducible exact Take.head) | apply Take.tail)); first | done | fail)).freeze
      by_cases hc : c ≠ 0
      · have hc1 : (c == 0) = false := by simpa using hc
        have hc2 : (c != 0) = true := by simpa using hc
        replace HV : Hid (parseN s = (noN, c)) := by show _ = _; rw [HV.out, finN, if_pos hc]
        clear hc hno
        rcases (by omega : j = 0 ∨ (0 < j ∧ f3 ≠ 0)) with rfl | ⟨hj0, hf⟩
        all_goals
          first | (have hfn : (f3 == 0) = false := by simpa using hf) | skip
          first | (have hfn2 : (f3 != 0) = true := by simpa using hf) | skip
          clear hgo
          go_wp2_with (first | (go_at_call 73; have hM0 := hM; clear hM; (first | (with_reducible refine (sErr hM0 (by (repeat (first | assumption | (with_reducible exact mZ) | apply mS)); first | done | fail)).mono ?_) | fail); clear hM0; rintro _ w ⟨rfl, hM⟩) | (go_at_call 64; have hM0 := hM; clear hM; (first | (with_reducible refine (sClose H4.out hM0 (by (repeat (first | (with_reducible exact Take.head) | apply Take.tail)); first | done | fail)).mono ?_) | fail); clear hM0; rintro _ w ⟨rfl, hM⟩) | (first | ((with_reducible refine at_store' ?_); (have hM0 := hM; clear hM; refine BigFrame.wpList_want (by rfl) fun K hK => ws_store hM0 rfl rfl rfl (by (repeat (first | (with_reducible exact Take.head) | apply Take.tail)); first | done | fail) (n := 2) (by rfl) (by rfl) (by kernel_rfl) (by simp [Value.oneCell']) (fun w hM => hK _ _ ?_); clear hM0 hK K)) | fail))
          refine bodyPost_ret (results_row_tmp (P := Try.prog) (ty := 52) rfl _ _ g2 52 (ndC 0 none 0 0) 2 _ rfl rfl (hM.blk (by (repeat (first | assumption | (with_reducible exact mZ) | apply mS)); first | done | fail)) rfl (by decide +kernel)) rfl ?_
          exact PN_none HV.out (hM.sel (R := F) (by repeat (first | (with_reducible exact Sel.refl) | (with_reducible exact Take.head) | (with_reducible apply Take.tail) | (with_reducible apply Sel.cons) | (with_reducible apply Sel.drop))))
      obtain rfl : c = 0 := by simpa using hc
      clear hc
      obtain rfl := HCF.out rfl
      obtain ⟨h32, hb⟩ := HG.out.2 rfl
      rw [fix_id h32, hno] at hM
      have hj0 : j = 0 := by omega
      subst hj0
      clear hgo
      have HK := fun (L : List SProp) (w : World) (hM : Star L w) (hF : rowE 33 A o3.length (pvs o3) ∈ L) => ncheck_star lv A o3.length ca o3 h32 (fun p hp => by have := hb p hp; omega) (by omega) w hM hF
      obtain ⟨kv, hkv⟩ : ∃ kv, checkN (lv, o3) = kv := ⟨_, rfl⟩
      rw [hkv] at HK
      have HKV := Lib.hid hkv
      replace HK := Lib.hid HK
      clear hkv h32 hb
      rw [hno] at hj
      subst hno
      by_cases hk : kv ≠ 0
      · have hk1 : (kv == 0) = false := by simpa using hk
        have hk2 : (kv != 0) = true := by simpa using hk
        replace HV : Hid (parseN s = (noN, kv)) := by show _ = _; rw [HV.out, finN, if_neg (by simp), HKV.out, if_pos hk]
        clear hk
        go_wp2_with (first | (go_at_call 64; have hM0 := hM; clear hM; (first | (with_reducible refine (sClose H4.out hM0 (by (repeat (first | (with_reducible exact Take.head) | apply Take.tail)); first | done | fail)).mono ?_) | fail); clear hM0; rintro _ w ⟨rfl, hM⟩) | (first | ((with_reducible refine at_load' ?_); (refine BigFrame.wpList_want (by rfl) fun K hK => ws_load hM rfl rfl (by (repeat (first | assumption | (with_reducible exact mZ) | apply mS)); first | done | fail) (n := 2) (by rfl) (by decide +kernel) (hK _ _ ?_); clear hK K)) | fail) | (go_at_call 74; have hM0 := hM; clear hM; (first | (with_reducible refine (HK.out _ _ hM0 (by (repeat (first | assumption | (with_reducible exact mZ) | apply mS)); first | done | fail)).mono ?_) | fail); clear hM0; rintro _ w ⟨rfl, hM⟩) | (first | ((with_reducible refine at_store' ?_); (have hM0 := hM; clear hM; refine BigFrame.wpList_want (by rfl) fun K hK => ws_store hM0 rfl rfl rfl (by (repeat (first | (with_reducible exact Take.head) | apply Take.tail)); first | done | fail) (n := 2) (by rfl) (by rfl) (by kernel_rfl) (by simp [Value.oneCell']) (fun w hM => hK _ _ ?_); clear hM0 hK K)) | fail))
        refine bodyPost_ret (results_row_tmp (P := Try.prog) (ty := 52) rfl _ _ g2 52 (ndC 0 none 0 0) 2 _ rfl rfl (hM.blk (by (repeat (first | assumption | (with_reducible exact mZ) | apply mS)); first | done | fail)) rfl (by decide +kernel)) rfl ?_
        exact PN_none HV.out (hM.sel (R := F) (by repeat (first | (with_reducible exact Sel.refl) | (with_reducible exact Take.head) | (with_reducible apply Take.tail) | (with_reducible apply Sel.cons) | (with_reducible apply Sel.drop))))
      obtain rfl : kv = 0 := by simpa using hk
      clear hk
      replace HV : Hid (parseN s = ((lv, o3), 0)) := by show _ = _; rw [HV.out, finN, if_neg (by simp), HKV.out, if_neg (by simp)]
      go_wp2_with (first | (go_at_call 64; have hM0 := hM; clear hM; (first | (with_reducible refine (sClose H4.out hM0 (by (repeat (first | (with_reducible exact Take.head) | apply Take.tail)); first | done | fail)).mono ?_) | fail); clear hM0; rintro _ w ⟨rfl, hM⟩) | (first | ((with_reducible refine at_load' ?_); (refine BigFrame.wpList_want (by rfl) fun K hK => ws_load hM rfl rfl (by (repeat (first | assumption | (with_reducible exact mZ) | apply mS)); first | done | fail) (n := 2) (by rfl) (by decide +kernel) (hK _ _ ?_); clear hK K)) | fail) | (go_at_call 74; have hM0 := hM; clear hM; (first | (with_reducible refine (HK.out _ _ hM0 (by (repeat (first | assumption | (with_reducible exact mZ) | apply mS)); first | done | fail)).mono ?_) | fail); clear hM0; rintro _ w ⟨rfl, hM⟩) | (first | ((with_reducible refine at_store' ?_); (have hM0 := hM; clear hM; refine BigFrame.wpList_want (by rfl) fun K hK => ws_store hM0 rfl rfl rfl (by (repeat (first | (with_reducible exact Take.head) | apply Take.tail)); first | done | fail) (n := 2) (by rfl) (by rfl) (by kernel_rfl) (by simp [Value.oneCell']) (fun w hM => hK _ _ ?_); clear hM0 hK K)) | fail))
      refine bodyPost_ret (results_row_tmp (P := Try.prog) (ty := 52) rfl _ _ g2 52 (ndC lv A o3.length ca) 2 _ rfl rfl (hM.blk (by (repeat (first | assumption | (with_reducible exact mZ) | apply mS)); first | done | fail)) rfl (by decide +kernel)) rfl ?_
      unfold PN
      rw [HV.out]
      exact ⟨A, ca, rfl, hM.sel (R := rowE 33 A o3.length (pvs o3) :: F) (by repeat (first | (with_reducible exact Sel.refl) | (with_reducible exact Take.head) | (with_reducible apply Take.tail) | (with_reducible apply Sel.cons) | (with_reducible apply Sel.drop)))⟩
end Go.Proofs.Ytlhedbjjlomniaa
set_option linter.unusedSimpArgs false
set_option linter.unusedVariables false
namespace Go.Proofs.Ytlhedbjjlomniaa
open Go.RowKit
attribute [local go_sem] extract_mid extract_drop bget bsize wrap64_u8 i64_u8 u64_u8 bappend
set_option maxRecDepth 100000 in
theorem rClose_any (l : List UInt8) (e : Int) (w : World) : Calls Try.prog 72 #[.agg (balC l e)] w fun r w' => r = .returned (.int .i64 (mClose l e).2) ∧ Ch [] w w' := by
  refine unstar fun L hM => ?_
  by_cases he : e = 0
  · subst he
    rcases l with _ | ⟨a, l⟩
    · go_enter Try.func72, Try.ntmps72
      go_wp2_with (first | (first | ((with_reducible refine at_box' ?_); (have hM0 := hM; clear hM; refine BigFrame.wpList_want (by rfl) fun K hK => ws_box hM0 rfl rfl (cs := balC _ _) rfl (fun gx w hM => hK _ _ ?_); clear hM0 hK K)) | fail) | (first | ((with_reducible refine at_load' ?_); (refine BigFrame.wpList_want (by rfl) fun K hK => ws_load1 hM rfl rfl (by (repeat (first | assumption | (with_reducible exact mZ) | apply mS)); first | done | fail) (by first | rfl | assumption) (by decide +kernel) (hK _ _ ?_); clear hK K)) | fail))
      go_ret
      exact ⟨rfl, hM.sel (by repeat (first | (with_reducible exact Sel.refl) | (with_reducible exact Take.head) | (with_reducible apply Take.tail) | (with_reducible apply Sel.cons) | (with_reducible apply Sel.drop)))⟩
    · go_enter Try.func72, Try.ntmps72
      go_wp2_with (first | (first | ((with_reducible refine at_box' ?_); (have hM0 := hM; clear hM; refine BigFrame.wpList_want (by rfl) fun K hK => ws_box hM0 rfl rfl (cs := balC _ _) rfl (fun gx w hM => hK _ _ ?_); clear hM0 hK K)) | fail) | (first | ((with_reducible refine at_load' ?_); (refine BigFrame.wpList_want (by rfl) fun K hK => ws_load1 hM rfl rfl (by (repeat (first | assumption | (with_reducible exact mZ) | apply mS)); first | done | fail) (by first | rfl | assumption) (by decide +kernel) (hK _ _ ?_); clear hK K)) | fail))
      go_ret
      exact ⟨rfl, hM.sel (by repeat (first | (with_reducible exact Sel.refl) | (with_reducible exact Take.head) | (with_reducible apply Take.tail) | (with_reducible apply Sel.cons) | (with_reducible apply Sel.drop)))⟩
  · have hc : (mClose l e).2 = e := by unfold mClose mFail; split <;> simp [he]
    rw [hc]
    have h1 : (e == 0) = false := by simpa using he
    clear hc
    go_enter Try.func72, Try.ntmps72
    go_wp2_with (first | (first | ((with_reducible refine at_box' ?_); (have hM0 := hM; clear hM; refine BigFrame.wpList_want (by rfl) fun K hK => ws_box hM0 rfl rfl (cs := balC _ _) rfl (fun gx w hM => hK _ _ ?_); clear hM0 hK K)) | fail) | (first | ((with_reducible refine at_load' ?_); (refine BigFrame.wpList_want (by rfl) fun K hK => ws_load1 hM rfl rfl (by (repeat (first | assumption | (with_reducible exact mZ) | apply mS)); first | done | fail) (by first | rfl | assumption) (by decide +kernel) (hK _ _ ?_); clear hK K)) | fail))
    go_ret
    exact ⟨rfl, hM.sel (by repeat (first | (with_reducible exact Sel.refl) | (with_reducible exact Take.head) | (with_reducible apply Take.tail) | (with_reducible apply Sel.cons) | (with_reducible apply Sel.drop)))⟩
end Go.Proofs.Ytlhedbjjlomniaa
