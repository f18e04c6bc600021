/- What the laws share, part 3 (OidC, Ref1m, Ref1p, OidO, OidA, MerR, MerU, BaleK). No condition but those that each theorem names. -/
import Derived.Test.YtnckgkgilnmocaaDep1
import Derived.Test.YtnckgkgilnmocaaDep2
import Derived.Laws.Externs
import Derived.Lib.Bytealg
import Derived.Lib.UnsafeStr
set_option linter.unusedSimpArgs false
set_option linter.unusedVariables false
namespace Go.Proofs.Ytnckgkgilnmocaa
open Go.RowKit
attribute [local go_sem] extract_mid extract_drop bget bsize wrap64_u8 i64_u8 u64_u8 bappend
attribute [local go_sem] bxor8
def cmpN (A B : Nat) : Int := if A < B then -1 else if A = B then 0 else 1
theorem run_xload {P : Program} (w : World) : ∀ (l : List UInt8) (a : Addr) (acc : ByteArray), (∀ j x, l[j]? = some x → w.cell? (a.add j) = some (.int .u8 (x.toNat : Int))) →
    (Extern.Bytes.loadBytes a l.length acc).run P w = .ok ⟨acc.data ++ l.toArray⟩ w
  | [], a, acc, _ => by simp [Extern.Bytes.loadBytes]
  | x :: l, a, acc, h => by
    have h0 : w.cell? a = some (.int .u8 (x.toNat : Int)) := by
      have := h 0 x rfl
      simpa [Addr.add] using this
    have ih := run_xload (P := P) w l (a.add 1) (acc.push x) (fun j y hy => by
      have := h (j + 1) y (by simpa using hy)
      rw [add_of_add, Nat.add_comm 1 j]; exact this)
    have hx : ((x.toNat : Int).toNat).toUInt8 = x := by simp
    simp only [List.length_cons, Extern.Bytes.loadBytes, Sem.run_bind, run_load, h0, Result.andThen, hx]
    rw [ih]
    congr 1
    apply ByteArray.ext
    simp [ByteArray.push]
theorem run_compare_rows {P : Program} {w : World} {A B : Option Addr} {n m c d : Nat} {x y : List UInt8} (h1 : Rd w 1 A n (bvs x)) (h2 : Rd w 1 B m (bvs y)) (hn : 0 < n) (hm : 0 < m) :
    (Extern.BytealgCompare.compare #[.slice A n c, .slice B m d]).run P w = .ok (.int .i64 (Lib.compareBytes x y)) w := by
  obtain ⟨ad, rfl, _, hc1⟩ := h1.2 hn
  obtain ⟨ae, rfl, _, hc2⟩ := h2.2 hm
  obtain rfl := bvs_row h1
  obtain rfl := bvs_row h2
  have e1 := run_xload (P := P) w x ad .empty fun j z hz => hc1 j _ (bvs_at hz)
  have e2 := run_xload (P := P) w y ae .empty fun j z hz => hc2 j _ (bvs_at hz)
  change Sem.run P (do pure (goInt (Extern.BytealgCompare.cmp (← Extern.Bytes.bytesOf (.slice (some ad) x.length c)) (← Extern.Bytes.bytesOf (.slice (some ae) y.length d))))) w = _
  simp only [Extern.Bytes.bytesOf, Sem.run_bind, Sem.run_pure, e1, e2, Result.andThen]
  rw [Lib.cmp_eq]
  simp [goInt]
set_option maxRecDepth 100000 in
theorem bcompare_any {w : World} {A B : Option Addr} {n m c d : Nat} {x y : List UInt8} (h1 : Rd w 1 A n (bvs x)) (h2 : Rd w 1 B m (bvs y)) (hn : 0 < n) (hm : 0 < m) :
    Calls Try.prog 88 #[.slice A n c, .slice B m d] w fun r w' => r = .returned (.int .i64 (Lib.compareBytes x y)) ∧ w = w' := by
  have hr := run_compare_rows (P := Try.prog) (c := c) (d := d) h1 h2 hn hm
  go_enter Try.func88, Try.ntmps88
  go_wp2
  rw [run_callFunc_extern Try.func102 (by kernel_rfl) (by kernel_rfl) (by kernel_rfl) (e := Extern.BytealgCompare.compare) (by kernel_rfl)]
  rw [hr]
  simp only [Result.andThen]
  rw [Oper.upon_value]
  go_wp2
  go_ret
  exact ⟨rfl, rfl⟩
set_option maxRecDepth 100000 in
theorem compare_star {F : List SProp} (a b : List UInt8) (ha : a.length = 32) (hb : b.length = 32) (w : World) (hM : Star F w) :
    Calls Try.prog 58 #[.agg (bvs a).toArray, .agg (bvs b).toArray] w fun r w' => r = .returned (.int .i64 (cmpN (numOf a) (numOf b))) ∧ Star F w' := by
  have HCN : Hid (Lib.compareBytes a b = cmpN (numOf a) (numOf b)) := cmp_num a b (by omega)
  rw [← HCN.out]
  go_enter Try.func58, Try.ntmps58
  go_wp2_with (first | (first | (have hM0 := hM; clear hM; refine BigFrame.wpList_want (by rfl) fun K hK => ws_box hM0 rfl rfl (cs := (bvs a).toArray) rfl (fun g2 w hM => hK _ _ ?_); clear hM0 hK K) | fail) | (first | (have hM0 := hM; clear hM; refine BigFrame.wpList_want (by rfl) fun K hK => ws_box hM0 rfl rfl (cs := (bvs b).toArray) rfl (fun g3 w hM => hK _ _ ?_); clear hM0 hK K) | fail))
  (refine region_RS ([cellsE g2 73 (bvs a).toArray, cellsE g3 73 (bvs b).toArray]) [] (by kernel_rfl) hM ?_; clear hM; change RS _ _ _ _ _ _ 4 (Array.replicate 4 false) _ _; refine RS_take (i := 0) rfl (by decide +kernel) (fun _ _ _ h => h) (by first | (intro x hx; (repeat (first | exact hx | apply mS)); done) | ((repeat (refine List.forall_mem_cons.2 ⟨(by (repeat (first | assumption | (with_reducible exact mZ) | apply mS)); first | done | fail), ?_⟩)); intro x hx; first | (cases hx; done) | ((repeat (first | exact hx | apply mS)); done))) (stab_pure (by rfl) (fun w => (by go_simp; try with_reducible rfl))) ?_; simp only [Act.put, List.setIfInBounds_toArray, List.set_cons_zero, List.set_cons_succ]; refine RS_take (i := 1) rfl (by decide +kernel) (fun _ _ _ h => h) (by first | (intro x hx; (repeat (first | exact hx | apply mS)); done) | ((repeat (refine List.forall_mem_cons.2 ⟨(by (repeat (first | assumption | (with_reducible exact mZ) | apply mS)); first | done | fail), ?_⟩)); intro x hx; first | (cases hx; done) | ((repeat (first | exact hx | apply mS)); done))) (stab_pure (by rfl) (fun w => (by go_simp; try with_reducible rfl))) ?_; simp only [Act.put, List.setIfInBounds_toArray, List.set_cons_zero, List.set_cons_succ]; refine RS_take (i := 2) rfl (by decide +kernel) (fun _ _ _ h => h) (by first | (intro x hx; (repeat (first | exact hx | apply mS)); done) | ((repeat (refine List.forall_mem_cons.2 ⟨(by (repeat (first | assumption | (with_reducible exact mZ) | apply mS)); first | done | fail), ?_⟩)); intro x hx; first | (cases hx; done) | ((repeat (first | exact hx | apply mS)); done))) (stab_call (by rfl) (fun w => (by go_simp; try with_reducible rfl)) (fun L w hL hM => (starq (bcompare_any (A := some ⟨g2, 0, none⟩) (B := some ⟨g3, 0, none⟩) (n := 32) (m := 32) (c := 32) (d := 32) (Star.arr hM (hL _ (by (repeat (first | assumption | (with_reducible exact mZ) | apply mS)); first | done | fail)) ha) (Star.arr hM (hL _ (by (repeat (first | assumption | (with_reducible exact mZ) | apply mS)); first | done | fail)) hb) (by omega) (by omega)) hM))) ?_; simp only [Act.put, List.setIfInBounds_toArray, List.set_cons_zero, List.set_cons_succ]; refine RS_take (i := 3) rfl (by decide +kernel) (fun _ _ _ h => h) (by first | (intro x hx; (repeat (first | exact hx | apply mS)); done) | ((repeat (refine List.forall_mem_cons.2 ⟨(by (repeat (first | assumption | (with_reducible exact mZ) | apply mS)); first | done | fail), ?_⟩)); intro x hx; first | (cases hx; done) | ((repeat (first | exact hx | apply mS)); done))) (stab_pure (by rfl) (fun w => (by go_simp; try with_reducible rfl))) ?_; simp only [Act.put, List.setIfInBounds_toArray, List.set_cons_zero, List.set_cons_succ]; refine RS_done (by decide +kernel) (.inl (by first | (intro x hx; (repeat (first | exact hx | apply mS)); done) | ((repeat (refine List.forall_mem_cons.2 ⟨(by (repeat (first | assumption | (with_reducible exact mZ) | apply mS)); first | done | fail), ?_⟩)); intro x hx; first | (cases hx; done) | ((repeat (first | exact hx | apply mS)); done)))) (fun w hM => ?_))
  go_wp2
  go_ret
  exact ⟨rfl, hM.sel (by repeat (first | (with_reducible exact Sel.refl) | (with_reducible exact Take.head) | (with_reducible apply Take.tail) | (with_reducible apply Sel.cons) | (with_reducible apply Sel.drop)))⟩
end Go.Proofs.Ytnckgkgilnmocaa
set_option linter.unusedSimpArgs false
set_option linter.unusedVariables false
namespace Go.Proofs.Ytnckgkgilnmocaa
open Go.RowKit
attribute [local go_sem] extract_mid extract_drop bget bsize wrap64_u8 i64_u8 u64_u8 bappend
theorem u32_not2 (x : UInt32) : bits BinOp.xor IntKind.u32 (if IntKind.u32.signed = true then -1 else IntKind.u32.max) (w32 x) = w32 (~~~x) := u32_not x
attribute [local go_sem] u32_add u32_add' u32_xor_w u32_and_w u32_or_w u32_not u32_not2
attribute [local irreducible] sched rnds mix
end Go.Proofs.Ytnckgkgilnmocaa
set_option linter.unusedSimpArgs false
set_option linter.unusedVariables false
namespace Go.Proofs.Ytnckgkgilnmocaa
open Go.RowKit
attribute [local go_sem] extract_mid extract_drop bget bsize wrap64_u8 i64_u8 u64_u8 bappend
theorem wrap_w32 (x : UInt32) : IntKind.u32.wrap (w32 x) = w32 x := by have := w32_lt x; exact IntWalk.u32_in _ (by omega)
theorem mod_w32 (x : UInt32) : w32 x % 4294967296 = w32 x := by have := w32_lt x; omega
attribute [local go_sem] wrap_w32 mod_w32
end Go.Proofs.Ytnckgkgilnmocaa
set_option linter.unusedSimpArgs false
set_option linter.unusedVariables false
namespace Go.Proofs.Ytnckgkgilnmocaa
open Go.RowKit
attribute [local go_sem] extract_mid extract_drop bget bsize wrap64_u8 i64_u8 u64_u8 bappend
def be4 (n : Nat) : List UInt8 := (List.range 4).map fun j => UInt8.ofNat (n / 256 ^ (3 - j))
theorem be4_len (n : Nat) : (be4 n).length = 4 := by simp [be4]
theorem be4_at (n j : Nat) (h : j < 4) : (be4 n)[j]? = some (UInt8.ofNat (n / 256 ^ (3 - j))) := by simp [be4, h]
/-- What the name of an object is the sum of. -/
def crvH (k : UInt8) (n : Nat) : List UInt8 := [99, 114, 118, k] ++ be4 n
theorem crvH_len (k : UInt8) (n : Nat) : (crvH k n).length = 8 := by simp [crvH, be4_len]
/-- The name of an object. -/
def onm (k : UInt8) (s : List UInt8) : List UInt8 := sha (crvH k s.length ++ s)
theorem onm_len (k : UInt8) (s : List UInt8) : (onm k s).length = 32 := sha_len _
theorem shr8i_nat (x j : Nat) : (x : Int) / 2 ^ (8 * (3 - (j : Int))).toNat = ((x / 256 ^ (3 - j) : Nat) : Int) := by
  rw [show (8 * (3 - (j : Int))).toNat = 8 * (3 - j) by omega, Int.natCast_ediv]
  congr 1
  rw [Int.natCast_pow, show ((256 : Nat) : Int) = 2 ^ 8 by decide, ← Int.pow_mul]
theorem ex_shr8i {P : Program} {w : World} {o : Oper} {a : Act} {t ty : TypeId} {x y : Operand} (ho : o.op = .binOp .shr t x y ty) {n j : Nat} (hx : a.eval x = .int .i64 (n : Int)) (hy : a.eval y = .int .i64 (8 * (3 - (j : Int)))) (hj : j ≤ 3) {z : Nat} (hz : n / 256 ^ (3 - j) = z) :
    (execOp a.eval o).run P w = .ok (.value (.int .i64 (z : Int))) w := by
  have h0 : (0 : Int) ≤ 8 * (3 - (j : Int)) := by omega
  have h9 := shr8i_nat n j
  rw [hz] at h9
  unfold execOp
  simp only [ho, hx, hy]
  simp [go_sem, h0, h9]
set_option maxRecDepth 100000 in
set_option maxHeartbeats 4000000 in
theorem oof_star_b {F : List SProp} (kd : UInt8) (ps : List (List UInt8)) (As : Option Addr) (np cp : Nat) (hb : (cat ps).length ≤ 140737488352000) (hnp : np ≤ 1000) (w : World) (hM : Star F w) (hF : rowE 1 As np (svs ps) ∈ F) :
    Calls Try.prog 31 #[.int .i64 kd.toNat, .slice As np cp] w fun r w' => r = .returned (.agg (bvs (onm kd (cat ps))).toArray) ∧ Star F w' := by
  have hl := svs_row (hM.row hF)
  have HB := Lib.hid (fun k => cat_take_all ps k)
  have HP := Lib.hid (fun x hx => cat_mem_le ps x hx)
  have HBB := Lib.hid hb
  have HL := Lib.hid hl
  have hnm := onm_len kd (cat ps)
  have HNM := Lib.hid hnm
  have hkd : IntKind.u8.wrap (kd.toNat : Int) = (kd.toNat : Int) := u8_u8 kd
  clear hnm
  have HSM : ∀ (gs : Nat) (A : Option Addr) (n c : Nat) {L R1 R2 : List SProp}, Take (cellsE gs 155 (shCells ([] ++ cat [crvH kd (cat ps).length] ++ cat ps) A n c)) L R1 → Take (tailE 5 1 A n c (bvs (rest ([] ++ cat [crvH kd (cat ps).length] ++ cat ps)))) R1 R2 → ∀ w : World, Star L w → Calls Try.prog 61 #[.pointer (some ⟨gs, 0, none⟩)] w fun r w' => r = .returned (.agg (bvs (onm kd (cat ps))).toArray) ∧ Star L w' := fun gs A n c _ _ _ h1 h2 w hM => by
    have := sum2 gs _ h1 h2 (by simp [cat, crvH_len]; omega) w hM
    rwa [List.nil_append, cat_one] at this
  obtain ⟨N, hN⟩ : ∃ N, N = (cat ps).length := ⟨_, rfl⟩
  rw [← hN] at HSM hb
  have HN := Lib.hid hN
  clear hN
  generalize onm kd (cat ps) = nm at HNM HSM ⊢
  go_enter Try.func31, Try.ntmps31
  go_wp2_with (first | (first | (have hM0 := hM; clear hM; refine BigFrame.wpList_want (by rfl) fun K hK => ws_alloc hM0 (t := 73) rfl (bvs z32).toArray info_id (fun g4 w hM => hK _ _ ?_); clear hM0 hK K) | fail))
  go_loopw [5, 12] (fun n i wr => ∃ k : Nat, k ≤ np ∧ i = .int .i64 k ∧ n = .int .i64 ((cat (ps.take k)).length : Nat) ∧ Star (cellsE g4 73 (bvs z32).toArray :: F) wr) (fun _ i _ => np - (intOf i).toNat)
  case atStart => exact ⟨0, by omega, rfl, rfl, hM⟩
  case round =>
    clear hM
    obtain ⟨k, hk, rfl, rfl, hM⟩ := hrel
    have hbk : (cat (ps.take k)).length ≤ 140737488352000 := by have h1 := HB.out k; have h2 := HBB.out; omega
    by_cases hlt : k < np
    · obtain ⟨ad, d, rfl, hv, hg, ht⟩ := hM.elemS (A := As) (n := np) (l := ps) (by (repeat (first | assumption | (with_reducible exact mZ) | apply mS)); first | done | fail) hlt
      have hd : d.length ≤ 140737488352000 := by have h1 := HP.out d (List.mem_of_getElem? hg); have h2 := HBB.out; omega
      have HT : Hid ((cat (ps.take (k + 1))).length = (cat (ps.take k)).length + d.length) := by show _ = _; rw [ht, cat_snoc, List.length_append]
      clear ht hg
      go_wp2_with (first | (first | (refine BigFrame.wpList_want (by rfl) fun K hK => ws_rowload rfl rfl (by first | (apply Star.row hM; (repeat (first | assumption | (with_reducible exact mZ) | apply mS)); done) | (apply Star.own hM; (repeat (first | assumption | (with_reducible exact mZ) | apply mS)); done) | (apply Star.arr hM; (focus ((repeat (first | assumption | (with_reducible exact mZ) | apply mS)); done)); assumption)) (by assumption) (by kernel_rfl) (hK _ _ ?_); clear hK K) | fail))
      go_roundw
      case rel => exact ⟨k + 1, by omega, by go_num, by rw [HT.out]; go_num, hM⟩
      case measure => simp [intOf]; omega
    · obtain rfl : k = np := by omega
      have HT : Hid ((cat (ps.take k)).length = N) := by show _ = _; rw [HN.out, List.take_of_length_le (by rw [HL.out]; omega)]
      rw [HT.out]
      clear hbk
      have hltI : ¬ ((k : Int) < (k : Int)) := by omega
      go_wp2_with (first | (first | (have hM0 := hM; clear hM; refine BigFrame.wpList_want (by rfl) fun K hK => ws_slice_tail hM0 (n := 4) rfl 5 1 (.int .u8 0) [bv 99, bv 114, bv 118, bv kd] Try.underlying84 (by kernel_rfl) rfl (by simp [Value.cells, iv, sv, bv]) (by rfl) (by decide) (by decide) (cs := bvs [99, 114, 118, kd]) (by rfl) (fun gh w hM => hK _ _ ?_); clear hM0 hK K) | fail))
      obtain ⟨wq, rfl⟩ : ∃ wq : World, wq = w := ⟨_, rfl⟩
      go_loopw [8, 9] (fun h i wx => ∃ (j m : Nat) (A : Option Addr) (c : Nat), j ≤ 4 ∧ m = 4 + j ∧ i = .int .i64 (3 - (j : Int)) ∧ h = .slice A m c ∧ Star (tailE 5 1 A m c (bvs ([99, 114, 118, kd] ++ (be4 N).take j)) :: cellsE g4 73 (bvs z32).toArray :: F) wx) (fun _ i _ => (intOf i + 1).toNat)
      case atStart => exact ⟨0, 4, _, _, by omega, rfl, rfl, rfl, by rw [List.take_zero, List.append_nil]; exact hM⟩
      case round =>
        clear hM
        obtain ⟨j, m, A, c, hj, hm, rfl, rfl, hM⟩ := hrel
        have hmb : m ≤ 8 := by omega
        have HM := Lib.hid hm
        clear hm
        by_cases hj4 : j < 4
        · have hi0 : (0 : Int) ≤ 3 - (j : Int) := by omega
          obtain ⟨d, hd⟩ : ∃ d, d = UInt8.ofNat (N / 256 ^ (3 - j)) := ⟨_, rfl⟩
          obtain ⟨z, hz⟩ : ∃ z, N / 256 ^ (3 - j) = z := ⟨_, rfl⟩
          have hg := be4_at N j hj4
          have hdz : IntKind.u8.wrap (z : Int) = (d.toNat : Int) := by rw [hd, hz, ← u8_wrap]
          rw [← hd] at hg
          have HT := Lib.hid (take_snoc_at _ _ _ hg)
          have HZ := Lib.hid hz
          clear hg hd hz
          go_wp2_with (first | (refine BigFrame.wpList_want (by rfl) fun K hK => ws_of_ex (ex_shr8i rfl rfl rfl (by omega) HZ.out) (hK _ _ ?_); clear hK K) | (first | (have hM0 := hM; clear hM; refine BigFrame.wpList_want (by rfl) fun K hK => ws_slice_row hM0 (n := 1) rfl 5 1 (.int .u8 0) [bv d] Try.underlying84 (by kernel_rfl) rfl (by simp [Value.cells, iv, sv, bv]) (by rfl) (by decide) (cs := bvs [d]) (by rfl) (fun gr w hM => hK _ _ ?_); clear hM0 hK K) | fail) | (first | (have hM0 := hM; clear hM; refine BigFrame.wpList_want (by rfl) fun K hK => ws_app hM0 rfl rfl 5 ((.int .u8 0)) 1 1 Try.underlying84 (by kernel_rfl) (by rfl) (by (repeat (first | (with_reducible exact Take.head) | apply Take.tail)); first | done | fail) (src_row Try.underlying84 _ (hM0.row (by (repeat (first | assumption | (with_reducible exact mZ) | apply mS)); first | done | fail)) (bvs_oneCell _)) ((by clear hdz; omega)) (fun A1 c1 w hM => hK _ _ ?_); clear hM0 hK K; (try simp only [Nat.zero_add, Nat.add_zero, List.nil_append, List.append_nil, ← bvs_app] at hM)) | fail))
          go_roundw
          case rel => exact ⟨j + 1, m + 1, A1, c1, by omega, by have := HM.out; omega, by (congr 1; omega), rfl, by rw [HT.out, ← List.append_assoc]; exact hM.sel (by repeat (first | (with_reducible exact Sel.refl) | (with_reducible exact Take.head) | (with_reducible apply Take.tail) | (with_reducible apply Sel.cons) | (with_reducible apply Sel.drop)))⟩
          case measure => simp [intOf]; omega
        · obtain rfl : j = 4 := by omega
          obtain rfl : m = 8 := by have := HM.out; omega
          have HF : Hid ([99, 114, 118, kd] ++ (be4 N).take 4 = crvH kd N) := by show _ = _; rw [List.take_of_length_le (by rw [be4_len]; omega)]; rfl
          rw [HF.out] at hM
          replace hM := hM.tail_freeze
          have HCL := Lib.hid (crvH_len kd N)
          go_wp2_with fail
          (refine region_RS ([rowE 1 A 8 (bvs (crvH kd N))]) [] (by kernel_rfl) hM ?_; clear hM; change RS _ _ _ _ _ _ 9 (Array.replicate 9 false) _ _; refine RS_take (i := 1) rfl (by decide +kernel) (fun _ _ _ h => h) (by first | (intro x hx; (repeat (first | exact hx | apply mS)); done) | ((repeat (refine List.forall_mem_cons.2 ⟨(by (repeat (first | assumption | (with_reducible exact mZ) | apply mS)); first | done | fail), ?_⟩)); intro x hx; first | (cases hx; done) | ((repeat (first | exact hx | apply mS)); done))) (stab_pure (by rfl) (fun w => (by go_simp; try with_reducible rfl))) ?_; simp only [Act.put, List.setIfInBounds_toArray, List.set_cons_zero, List.set_cons_succ]; refine RS_take (i := 2) rfl (by decide +kernel) (fun _ _ _ h => h) (by first | (intro x hx; (repeat (first | exact hx | apply mS)); done) | ((repeat (refine List.forall_mem_cons.2 ⟨(by (repeat (first | assumption | (with_reducible exact mZ) | apply mS)); first | done | fail), ?_⟩)); intro x hx; first | (cases hx; done) | ((repeat (first | exact hx | apply mS)); done))) (stab_read (by rfl) (fun L w hL hM => (ex_string (l := crvH kd N) rfl 5 Try.underlying84 Try.underlying9 Try.underlying5 rfl (hM.row (hL _ (by (repeat (first | assumption | (with_reducible exact mZ) | apply mS)); first | done | fail)))))) ?_; simp only [Act.put, List.setIfInBounds_toArray, List.set_cons_zero, List.set_cons_succ]; refine RS_take (i := 5) rfl (by decide +kernel) (fun _ _ _ h => h) (by first | (intro x hx; (repeat (first | exact hx | apply mS)); done) | ((repeat (refine List.forall_mem_cons.2 ⟨(by (repeat (first | assumption | (with_reducible exact mZ) | apply mS)); first | done | fail), ?_⟩)); intro x hx; first | (cases hx; done) | ((repeat (first | exact hx | apply mS)); done))) (stab_pure (by rfl) (fun w => (by go_simp; try with_reducible rfl))) ?_; simp only [Act.put, List.setIfInBounds_toArray, List.set_cons_zero, List.set_cons_succ]; refine RS_ready (rs := [0, 3]) (by decide +kernel) (by simp) (.inl (by first | (intro x hx; (repeat (first | exact hx | apply mS)); done) | ((repeat (refine List.forall_mem_cons.2 ⟨(by (repeat (first | assumption | (with_reducible exact mZ) | apply mS)); first | done | fail), ?_⟩)); intro x hx; first | (cases hx; done) | ((repeat (first | exact hx | apply mS)); done)))) ?_; refine (List.forall_mem_cons.2 ⟨?_, (List.forall_mem_cons.2 ⟨?_, (fun _ h => by cases h)⟩)⟩); rotate_right 1; (focus (refine RS_way (i := 3) rfl (by rfl) (fun w K hM0 hK => ?_); refine ws_slice_row hM0 (n := 1) rfl 9 1 (.string ByteArray.empty) [sv (crvH kd N)] Try.underlying59 (by kernel_rfl) rfl (by simp [Value.cells, iv, sv, bv]) (by rfl) (by decide) (cs := svs [crvH kd N]) (by rfl) (fun gr w hM => hK _ _ _ hM ?_); clear hM hM0 hK K; simp only [Act.put, List.setIfInBounds_toArray, List.set_cons_zero, List.set_cons_succ]; refine RS_one (i := 0) (by decide +kernel) rfl (by rfl) (.inl (by first | (intro x hx; (repeat (first | exact hx | apply mS)); done) | ((repeat (refine List.forall_mem_cons.2 ⟨(by (repeat (first | assumption | (with_reducible exact mZ) | apply mS)); first | done | fail), ?_⟩)); intro x hx; first | (cases hx; done) | ((repeat (first | exact hx | apply mS)); done)))) (fun w K hM0 hK => ?_); refine ws_call (by go_simp; try with_reducible rfl) (new_star w hM0) (fun r w2 hR => ?_); obtain ⟨gs, rfl, hM⟩ := hR; refine ⟨_, rfl, hK _ _ _ hM ?_⟩; clear hM hM0 hK K; simp only [Act.put, List.setIfInBounds_toArray, List.set_cons_zero, List.set_cons_succ]; refine RS_one (i := 4) (by decide +kernel) rfl (by rfl) (.inl (by first | (intro x hx; (repeat (first | exact hx | apply mS)); done) | ((repeat (refine List.forall_mem_cons.2 ⟨(by (repeat (first | assumption | (with_reducible exact mZ) | apply mS)); first | done | fail), ?_⟩)); intro x hx; first | (cases hx; done) | ((repeat (first | exact hx | apply mS)); done)))) (fun w K hM0 hK => ?_); refine ws_call (by go_simp; try with_reducible rfl) (write2 (As := some ⟨gr, 0, none⟩) (np := 1) (cp := 1) gs [] [crvH kd N] (by (repeat (first | (with_reducible exact Take.head) | apply Take.tail)); first | done | fail) (by (repeat (first | (with_reducible exact Take.head) | apply Take.tail)); first | done | fail) (by (repeat (first | assumption | (with_reducible exact mZ) | apply mS)); first | done | fail) (by simp [HCL.out]) (by omega) (by simp) w hM0) (fun r w2 hR => ?_); obtain ⟨A1, n1, c1, rfl, hM⟩ := hR; refine ⟨_, rfl, hK _ _ _ hM ?_⟩; clear hM hM0 hK K; simp only [Act.put, List.setIfInBounds_toArray, List.set_cons_zero, List.set_cons_succ]; refine RS_one (i := 6) (by decide +kernel) rfl (by rfl) (.inl (by first | (intro x hx; (repeat (first | exact hx | apply mS)); done) | ((repeat (refine List.forall_mem_cons.2 ⟨(by (repeat (first | assumption | (with_reducible exact mZ) | apply mS)); first | done | fail), ?_⟩)); intro x hx; first | (cases hx; done) | ((repeat (first | exact hx | apply mS)); done)))) (fun w K hM0 hK => ?_); refine ws_call (by go_simp; try with_reducible rfl) (write2_b (As := As) (np := k) (cp := cp) gs ([] ++ cat [crvH kd N]) ps (by (repeat (first | (with_reducible exact Take.head) | apply Take.tail)); first | done | fail) (by (repeat (first | (with_reducible exact Take.head) | apply Take.tail)); first | done | fail) (by (repeat (first | assumption | (with_reducible exact mZ) | apply mS)); first | done | fail) (by have h2 := HBB.out; simp [cat, HCL.out]; omega) (by omega) w hM0) (fun r w2 hR => ?_); obtain ⟨A2, n2, c2, rfl, hM⟩ := hR; refine ⟨_, rfl, hK _ _ _ hM ?_⟩; clear hM hM0 hK K; simp only [Act.put, List.setIfInBounds_toArray, List.set_cons_zero, List.set_cons_succ]; refine RS_one (i := 7) (by decide +kernel) rfl (by rfl) (.inl (by first | (intro x hx; (repeat (first | exact hx | apply mS)); done) | ((repeat (refine List.forall_mem_cons.2 ⟨(by (repeat (first | assumption | (with_reducible exact mZ) | apply mS)); first | done | fail), ?_⟩)); intro x hx; first | (cases hx; done) | ((repeat (first | exact hx | apply mS)); done)))) (fun w K hM0 hK => ?_); refine ws_call (by go_simp; try with_reducible rfl) (HSM gs A2 n2 c2 (by (repeat (first | (with_reducible exact Take.head) | apply Take.tail)); first | done | fail) (by (repeat (first | (with_reducible exact Take.head) | apply Take.tail)); first | done | fail) w hM0) (fun r w2 hR => ?_); obtain ⟨rfl, hM⟩ := hR; refine ⟨_, rfl, hK _ _ _ hM ?_⟩; clear hM hM0 hK K; simp only [Act.put, List.setIfInBounds_toArray, List.set_cons_zero, List.set_cons_succ]; refine RS_one (i := 8) (by decide +kernel) rfl (by rfl) (.inl (by first | (intro x hx; (repeat (first | exact hx | apply mS)); done) | ((repeat (refine List.forall_mem_cons.2 ⟨(by (repeat (first | assumption | (with_reducible exact mZ) | apply mS)); first | done | fail), ?_⟩)); intro x hx; first | (cases hx; done) | ((repeat (first | exact hx | apply mS)); done)))) (fun w K hM0 hK => ?_); refine ws_store hM0 rfl rfl rfl (by (repeat (first | (with_reducible exact Take.head) | apply Take.tail)); first | done | fail) (n := 32) (by simp [bvs_len, HNM.out]) (by simp [bvs_len, z32_len]) (by kernel_rfl) (by simpa using bvs_oneCell _) (fun w hM => hK _ _ _ hM ?_); clear hM hM0 hK K; simp only [Act.put, List.setIfInBounds_toArray, List.set_cons_zero, List.set_cons_succ]; refine RS_done (by decide +kernel) (.inl (by first | (intro x hx; (repeat (first | exact hx | apply mS)); done) | ((repeat (refine List.forall_mem_cons.2 ⟨(by (repeat (first | assumption | (with_reducible exact mZ) | apply mS)); first | done | fail), ?_⟩)); intro x hx; first | (cases hx; done) | ((repeat (first | exact hx | apply mS)); done)))) (fun w hM => ?_))); rotate_right 1; (focus (refine RS_way (i := 0) rfl (by rfl) (fun w K hM0 hK => ?_); refine ws_call (by go_simp; try with_reducible rfl) (new_star w hM0) (fun r w2 hR => ?_); obtain ⟨gs, rfl, hM⟩ := hR; refine ⟨_, rfl, hK _ _ _ hM ?_⟩; clear hM hM0 hK K; simp only [Act.put, List.setIfInBounds_toArray, List.set_cons_zero, List.set_cons_succ]; refine RS_one (i := 3) (by decide +kernel) rfl (by rfl) (.inl (by first | (intro x hx; (repeat (first | exact hx | apply mS)); done) | ((repeat (refine List.forall_mem_cons.2 ⟨(by (repeat (first | assumption | (with_reducible exact mZ) | apply mS)); first | done | fail), ?_⟩)); intro x hx; first | (cases hx; done) | ((repeat (first | exact hx | apply mS)); done)))) (fun w K hM0 hK => ?_); refine ws_slice_row hM0 (n := 1) rfl 9 1 (.string ByteArray.empty) [sv (crvH kd N)] Try.underlying59 (by kernel_rfl) rfl (by simp [Value.cells, iv, sv, bv]) (by rfl) (by decide) (cs := svs [crvH kd N]) (by rfl) (fun gr w hM => hK _ _ _ hM ?_); clear hM hM0 hK K; simp only [Act.put, List.setIfInBounds_toArray, List.set_cons_zero, List.set_cons_succ]; refine RS_one (i := 4) (by decide +kernel) rfl (by rfl) (.inl (by first | (intro x hx; (repeat (first | exact hx | apply mS)); done) | ((repeat (refine List.forall_mem_cons.2 ⟨(by (repeat (first | assumption | (with_reducible exact mZ) | apply mS)); first | done | fail), ?_⟩)); intro x hx; first | (cases hx; done) | ((repeat (first | exact hx | apply mS)); done)))) (fun w K hM0 hK => ?_); refine ws_call (by go_simp; try with_reducible rfl) (write2 (As := some ⟨gr, 0, none⟩) (np := 1) (cp := 1) gs [] [crvH kd N] (by (repeat (first | (with_reducible exact Take.head) | apply Take.tail)); first | done | fail) (by (repeat (first | (with_reducible exact Take.head) | apply Take.tail)); first | done | fail) (by (repeat (first | assumption | (with_reducible exact mZ) | apply mS)); first | done | fail) (by simp [HCL.out]) (by omega) (by simp) w hM0) (fun r w2 hR => ?_); obtain ⟨A1, n1, c1, rfl, hM⟩ := hR; refine ⟨_, rfl, hK _ _ _ hM ?_⟩; clear hM hM0 hK K; simp only [Act.put, List.setIfInBounds_toArray, List.set_cons_zero, List.set_cons_succ]; refine RS_one (i := 6) (by decide +kernel) rfl (by rfl) (.inl (by first | (intro x hx; (repeat (first | exact hx | apply mS)); done) | ((repeat (refine List.forall_mem_cons.2 ⟨(by (repeat (first | assumption | (with_reducible exact mZ) | apply mS)); first | done | fail), ?_⟩)); intro x hx; first | (cases hx; done) | ((repeat (first | exact hx | apply mS)); done)))) (fun w K hM0 hK => ?_); refine ws_call (by go_simp; try with_reducible rfl) (write2_b (As := As) (np := k) (cp := cp) gs ([] ++ cat [crvH kd N]) ps (by (repeat (first | (with_reducible exact Take.head) | apply Take.tail)); first | done | fail) (by (repeat (first | (with_reducible exact Take.head) | apply Take.tail)); first | done | fail) (by (repeat (first | assumption | (with_reducible exact mZ) | apply mS)); first | done | fail) (by have h2 := HBB.out; simp [cat, HCL.out]; omega) (by omega) w hM0) (fun r w2 hR => ?_); obtain ⟨A2, n2, c2, rfl, hM⟩ := hR; refine ⟨_, rfl, hK _ _ _ hM ?_⟩; clear hM hM0 hK K; simp only [Act.put, List.setIfInBounds_toArray, List.set_cons_zero, List.set_cons_succ]; refine RS_one (i := 7) (by decide +kernel) rfl (by rfl) (.inl (by first | (intro x hx; (repeat (first | exact hx | apply mS)); done) | ((repeat (refine List.forall_mem_cons.2 ⟨(by (repeat (first | assumption | (with_reducible exact mZ) | apply mS)); first | done | fail), ?_⟩)); intro x hx; first | (cases hx; done) | ((repeat (first | exact hx | apply mS)); done)))) (fun w K hM0 hK => ?_); refine ws_call (by go_simp; try with_reducible rfl) (HSM gs A2 n2 c2 (by (repeat (first | (with_reducible exact Take.head) | apply Take.tail)); first | done | fail) (by (repeat (first | (with_reducible exact Take.head) | apply Take.tail)); first | done | fail) w hM0) (fun r w2 hR => ?_); obtain ⟨rfl, hM⟩ := hR; refine ⟨_, rfl, hK _ _ _ hM ?_⟩; clear hM hM0 hK K; simp only [Act.put, List.setIfInBounds_toArray, List.set_cons_zero, List.set_cons_succ]; refine RS_one (i := 8) (by decide +kernel) rfl (by rfl) (.inl (by first | (intro x hx; (repeat (first | exact hx | apply mS)); done) | ((repeat (refine List.forall_mem_cons.2 ⟨(by (repeat (first | assumption | (with_reducible exact mZ) | apply mS)); first | done | fail), ?_⟩)); intro x hx; first | (cases hx; done) | ((repeat (first | exact hx | apply mS)); done)))) (fun w K hM0 hK => ?_); refine ws_store hM0 rfl rfl rfl (by (repeat (first | (with_reducible exact Take.head) | apply Take.tail)); first | done | fail) (n := 32) (by simp [bvs_len, HNM.out]) (by simp [bvs_len, z32_len]) (by kernel_rfl) (by simpa using bvs_oneCell _) (fun w hM => hK _ _ _ hM ?_); clear hM hM0 hK K; simp only [Act.put, List.setIfInBounds_toArray, List.set_cons_zero, List.set_cons_succ]; refine RS_done (by decide +kernel) (.inl (by first | (intro x hx; (repeat (first | exact hx | apply mS)); done) | ((repeat (refine List.forall_mem_cons.2 ⟨(by (repeat (first | assumption | (with_reducible exact mZ) | apply mS)); first | done | fail), ?_⟩)); intro x hx; first | (cases hx; done) | ((repeat (first | exact hx | apply mS)); done)))) (fun w hM => ?_))))
          all_goals
            go_wp2
            exact bodyPost_ret (results_cell_row rfl _ _ g4 73 (bvs nm).toArray (0, 0) _ rfl (hM.blk (by (repeat (first | assumption | (with_reducible exact mZ) | apply mS)); first | done | fail)) Try.underlying73 rfl (by rw [info_idn]; simp [bvs_len, HNM.out])) rfl ⟨rfl, hM.sel (by repeat (first | (with_reducible exact Sel.refl) | (with_reducible exact Take.head) | (with_reducible apply Take.tail) | (with_reducible apply Sel.cons) | (with_reducible apply Sel.drop)))⟩
theorem oof_star {F : List SProp} (kd : UInt8) (ps : List (List UInt8)) (As : Option Addr) (np cp : Nat) (hps : ∀ x ∈ ps, x.length ≤ 1000000) (hnp : np ≤ 1000) (w : World) (hM : Star F w) (hF : rowE 1 As np (svs ps) ∈ F) :
    Calls Try.prog 31 #[.int .i64 kd.toNat, .slice As np cp] w fun r w' => r = .returned (.agg (bvs (onm kd (cat ps))).toArray) ∧ Star F w' :=
  oof_star_b kd ps As np cp (by have h1 := cat_le 1000000 ps hps; rw [svs_row (hM.row hF)] at h1; omega) hnp w hM hF
end Go.Proofs.Ytnckgkgilnmocaa
set_option linter.unusedSimpArgs false
set_option linter.unusedVariables false
namespace Go.Proofs.Ytnckgkgilnmocaa
open Go.RowKit
attribute [local go_sem] extract_mid extract_drop bget bsize wrap64_u8 i64_u8 u64_u8 bappend
theorem ws_build {P : Program} {w : World} {o : Oper} {a : Act} {Q : Exit → Act → World → Prop} {K : Act → World → Prop} {t : TypeId} {parts : Array (Nat × Operand)} (ho : o.op = .build t parts) (v : Value)
    (hrun : (Instr.build t (parts.map fun x => (x.1, a.eval x.2))).run P w = .ok v w) (hK : K (a.put o.dst v) w) : Oper.wp P o a w K Q := by
  unfold Oper.wp
  simp only [execOp, ho, Sem.run_bind, hrun, Result.andThen_ok, Sem.run_pure]
  exact hK
/-- A name that begins with c. -/
def b0 (c : UInt8) : List UInt8 := c :: List.replicate 31 0
end Go.Proofs.Ytnckgkgilnmocaa
set_option linter.unusedSimpArgs false
set_option linter.unusedVariables false
namespace Go.Proofs.Ytnckgkgilnmocaa
open Go.RowKit
attribute [local go_sem] extract_mid extract_drop bget bsize wrap64_u8 i64_u8 u64_u8 bappend
theorem list32 {l : List UInt8} (h : l.length = 32) : ∃ f : Nat → UInt8, l = (List.range 32).map f := by
  refine ⟨fun i => l.getD i 0, List.ext_getElem (by simp [h]) fun i h1 h2 => ?_⟩
  simp [List.getD_eq_getElem?_getD, List.getElem?_eq_getElem h1]
end Go.Proofs.Ytnckgkgilnmocaa
set_option linter.unusedSimpArgs false
set_option linter.unusedVariables false
namespace Go.Proofs.Ytnckgkgilnmocaa
open Go.RowKit
attribute [local go_sem] extract_mid extract_drop bget bsize wrap64_u8 i64_u8 u64_u8 bappend
abbrev Ob := Int × List UInt8 × List UInt8
@[irreducible] def ocs (o : Ob) : List Value := iv o.1 :: (bvs o.2.1 ++ [sv o.2.2])
def ovs (l : List Ob) : List Value := l.flatMap ocs
def ob32 (l : List Ob) : Prop := ∀ o ∈ l, o.2.1.length = 32
theorem ocs_len {o : Ob} (h : o.2.1.length = 32) : (ocs o).length = 34 := by unfold ocs; simp [bvs_len, h]
theorem ocs_sz {o : Ob} (h : o.2.1.length = 32) : (ocs o).toArray.size = 34 := by rw [List.size_toArray]; exact ocs_len h
theorem ocs_0 (o : Ob) : (ocs o).toArray[0]? = some (.int .i64 o.1) := by unfold ocs; simp [iv]
theorem ocs_33 {o : Ob} (h : o.2.1.length = 32) : (ocs o).toArray[33]? = some (.string ⟨o.2.2.toArray⟩) := by
  unfold ocs
  rw [List.getElem?_toArray, List.getElem?_cons_succ, List.getElem?_append_right (by rw [bvs_len]; omega)]
  simp [bvs_len, h, sv]
theorem ocs_id (o : Ob) : ∀ j v, (bvs o.2.1)[j]? = some v → (ocs o).toArray[1 + j]? = some v := by
  intro j v hv
  have hj := (List.getElem?_eq_some_iff.1 hv).1
  unfold ocs
  rw [Nat.add_comm, List.getElem?_toArray, List.getElem?_cons_succ, List.getElem?_append_left hj]
  exact hv
theorem ocs_one (o : Ob) : ∀ v ∈ ocs o, v.oneCell' = true := by
  unfold ocs
  intro v hv
  simp only [List.mem_cons, List.mem_append, List.not_mem_nil, or_false] at hv
  rcases hv with rfl | hv | rfl
  · rfl
  · exact bvs_oneCell _ _ hv
  · rfl
theorem ocs_oneA (o : Ob) : ∀ v ∈ (ocs o).toArray.toList, v.oneCell' = true := by simpa using ocs_one o
theorem ovs_app (a b : List Ob) : ovs (a ++ b) = ovs a ++ ovs b := by simp [ovs]
theorem ovs_cells (l : List Ob) : ∀ v ∈ ovs l, v.oneCell' = true := by
  intro u hu
  obtain ⟨c, _, h⟩ := List.mem_flatMap.1 hu
  exact ocs_one c u h
theorem ovs_row {w : World} {A : Option Addr} {n : Nat} {l : List Ob} (h : Rd w 34 A n (ovs l)) (hf : ob32 l) : l.length = n := by
  have := flat_len ocs 34 l fun x hx => ocs_len (hf x hx)
  have h2 := h.1
  unfold ovs at h2
  omega
theorem info_ob : (Try.prog.info? 75).map (fun i => i.zero) = some (some (.agg (ocs (0, z32, [])).toArray)) := by unfold ocs; kernel_rfl
theorem build_ob (k : Int) (id : List UInt8) (h : id.length = 32) (x : List UInt8) (w : World) : (Instr.build 75 #[(0, .int .i64 k), (1, .agg (bvs id).toArray), (2, .string ⟨x.toArray⟩)]).run Try.prog w = .ok (.agg (ocs (k, id, x)).toArray) w := by
  obtain ⟨f, rfl⟩ := list32 h
  unfold ocs
  kernel_rfl
theorem oz32 : ((0, z32, []) : Ob).2.1.length = 32 := z32_len
set_option maxRecDepth 100000 in
theorem make_star {F : List SProp} (k : Int) (kd : UInt8) (hk : k = kd.toNat) (x : List UInt8) (hx : x.length ≤ 1000000) (w : World) (hM : Star F w) :
    Calls Try.prog 35 #[.int .i64 k, .string ⟨x.toArray⟩] w fun r w' => r = .returned (.agg (ocs (k, onm kd x, x)).toArray) ∧ Star F w' := by
  have HO : Hid (∀ (L : List SProp) (g : Nat) (w : World), Star L w → rowE 1 (some ⟨g, 0, none⟩) 1 (svs [x]) ∈ L → Calls Try.prog 31 #[.int .i64 k, .slice (some ⟨g, 0, none⟩) 1 1] w fun r w' => r = .returned (.agg (bvs (onm kd x)).toArray) ∧ Star L w') := fun L g w hM hx2 => by
    have := oof_star kd [x] (some ⟨g, 0, none⟩) 1 1 (by simpa using hx) (by omega) w hM hx2
    rwa [cat_one, ← hk] at this
  have hid := onm_len kd x
  have HB := Lib.hid (build_ob k (onm kd x) hid x)
  have HI : Hid ((onm kd x).length = 32) := hid
  have HS : Hid ((ocs (k, onm kd x, x)).toArray.size = 34) := ocs_sz hid
  have HS0 : Hid ((ocs (0, z32, [])).toArray.size = 34) := ocs_sz oz32
  clear hid hk
  generalize onm kd x = id at HO HB HI HS ⊢
  go_enter Try.func35, Try.ntmps35
  go_wp2_with (first | (first | ((with_reducible refine at_alloc' ?_); (have hM0 := hM; clear hM; refine BigFrame.wpList_want (by rfl) fun K hK => ws_alloc hM0 (t := 75) rfl (ocs (0, z32, [])).toArray info_ob (fun g4 w hM => hK _ _ ?_); clear hM0 hK K)) | fail) | (first | ((with_reducible refine at_slice' ?_); (have hM0 := hM; clear hM; refine BigFrame.wpList_want (by rfl) fun K hK => ws_slice_row hM0 (n := 1) rfl 9 1 (.string ByteArray.empty) [sv x] Try.underlying59 (by kernel_rfl) rfl (by simp [Value.cells, iv, sv, bv]) (by rfl) (by decide) (cs := svs [x]) (by rfl) (fun g8 w hM => hK _ _ ?_); clear hM0 hK K)) | fail) | (go_at_call 31; have hM0 := hM; clear hM; (first | (with_reducible refine (HO.out _ g8 _ hM0 (by (repeat (first | assumption | (with_reducible exact mZ) | apply mS)); first | done | fail)).mono ?_) | fail); clear hM0; rintro _ w ⟨rfl, hM⟩) | ((with_reducible refine at_build' ?_); refine BigFrame.wpList_want (by rfl) fun K hK => ws_build rfl (.agg (ocs (k, id, x)).toArray) (by simp only [List.map_toArray, List.map_cons, List.map_nil]; exact HB.out _) (hK _ _ ?_); clear hK K) | (first | ((with_reducible refine at_store' ?_); (have hM0 := hM; clear hM; refine BigFrame.wpList_want (by rfl) fun K hK => ws_store hM0 rfl rfl rfl (by (repeat (first | (with_reducible exact Take.head) | apply Take.tail)); first | done | fail) (n := 34) (by exact HS.out) (by exact HS0.out) (by kernel_rfl) (by exact ocs_oneA _) (fun w hM => hK _ _ ?_); clear hM0 hK K)) | fail))
  refine bodyPost_ret (results_row (P := Try.prog) (ty := 75) rfl _ _ g4 75 _ 34 rfl (hM.blk (by (repeat (first | assumption | (with_reducible exact mZ) | apply mS)); first | done | fail)) HS.out (by decide +kernel)) rfl ?_
  exact ⟨rfl, hM.sel (by repeat (first | (with_reducible exact Sel.refl) | (with_reducible exact Take.head) | (with_reducible apply Take.tail) | (with_reducible apply Sel.cons) | (with_reducible apply Sel.drop)))⟩
end Go.Proofs.Ytnckgkgilnmocaa
set_option linter.unusedSimpArgs false
set_option linter.unusedVariables false
namespace Go.Proofs.Ytnckgkgilnmocaa
open Go.RowKit
attribute [local go_sem] extract_mid extract_drop bget bsize wrap64_u8 i64_u8 u64_u8 bappend
theorem List.split_mem {α : Type} {x : α} {L : List α} (h : x ∈ L) : ∃ R, L.Perm (x :: R) := by
  obtain ⟨s, t, rfl⟩ := List.append_of_mem h
  exact ⟨s ++ t, List.perm_middle⟩
theorem Star.stays {f : FuncId} {args : Array Value} {v : Value} {x : SProp} {L : List SProp} {w : World} (hM : Star L w) (hx : x ∈ L) (h : ∀ R, Star (x :: R) w → Calls Try.prog f args w fun r w' => r = .returned v ∧ Star (x :: R) w') :
    Calls Try.prog f args w fun r w' => r = .returned v ∧ Star L w' := by
  obtain ⟨R, hp⟩ := List.split_mem hx
  exact (h R (hM.perm hp)).mono fun _ _ ⟨h1, h2⟩ => ⟨h1, h2.perm hp.symm⟩
end Go.Proofs.Ytnckgkgilnmocaa
