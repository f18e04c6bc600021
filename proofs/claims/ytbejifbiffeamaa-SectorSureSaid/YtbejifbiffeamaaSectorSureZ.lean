/- The statement SectorSure, from its walk. No condition but those that each theorem names. -/
import Derived.Test.YtbejifbiffeamaaS2
import Derived.Test.YtbejifbiffeamaaS3
set_option linter.unusedSimpArgs false
set_option linter.unusedVariables false
namespace Go.Proofs.Ytbejifbiffeamaa
open Go.RowKit
attribute [local go_sem] extract_mid extract_drop bget bsize wrap64_u8 i64_u8 u64_u8 bappend
/-- At most 6 texts of at most 70 bytes. -/
def fewL (l : List (List UInt8)) : List (List UInt8) := (l.take 6).map fun s => cutP s 70
theorem fewL_len (l : List (List UInt8)) : (fewL l).length ≤ 6 := by unfold fewL; simp; omega
theorem fewL_at {l : List (List UInt8)} {k : Nat} {d : List UInt8} (hk : k < 6) (h : l[k]? = some d) : (fewL l)[k]? = some (cutP d 70) := by
  unfold fewL
  rw [List.getElem?_map, List.getElem?_take, if_pos hk, h]
  rfl
theorem cut70 (l : List UInt8) (w : World) : Calls Try.prog 16 #[.string ⟨l.toArray⟩, .int .i64 70] w fun r w' => r = .returned (.string ⟨(cutP l 70).toArray⟩) ∧ w = w' := cut_any l 70 (by omega) w
set_option maxRecDepth 100000 in
set_option maxHeartbeats 4000000 in
theorem few_star {F : List SProp} (l : List (List UInt8)) (A : Option Addr) (n c : Nat) (hn : n ≤ 9223372036854775807) (w : World) (hM : Star F w) (hF : rowE 1 A n (svs l) ∈ F) :
    Calls Try.prog 21 #[.slice A n c] w fun r w' => ∃ A' c', r = .returned (.slice A' (fewL l).length c') ∧ Star (rowE 1 A' (fewL l).length (svs (fewL l)) :: F) w' := by
  have hl := svs_row (hM.row hF)
  have HL := Lib.hid hl
  have hN : (fewL l).length = min 6 n := by unfold fewL; simp [hl]
  obtain ⟨N, hNN⟩ : ∃ N, (fewL l).length = N := ⟨_, rfl⟩
  rw [hNN] at hN ⊢
  have HNN := Lib.hid hNN
  clear hl hNN
  go_enter Try.func21, Try.ntmps21
  go_wp2_with (first | (first | ((with_reducible refine at_slice' ?_); (have hM0 := hM; clear hM; refine BigFrame.wpList_want (by rfl) fun K hK => ws_slice_own hM0 (n := 0) rfl 9 1 (.string ByteArray.empty) [] Try.underlying22 (by kernel_rfl) rfl (by simp [Value.cells, iv, sv, bv]) (by rfl) (by decide) (by decide) (cs := svs []) (by rfl) (fun g5 w hM => hK _ _ ?_); clear hM0 hK K)) | fail))
  go_loopw [3, 4] (fun o i wr => ∃ (k : Nat) (B : Option Addr) (cb : Nat), k ≤ N ∧ i = .int .i64 k ∧ o = .slice B k cb ∧ Star (ownE 9 1 B k cb (svs ((fewL l).take k)) :: F) wr) (fun _ i _ => N - (intOf i).toNat)
  case atStart => exact ⟨0, _, _, by omega, rfl, rfl, hM⟩
  case round =>
    clear hM
    obtain ⟨k, B, cb, hk, rfl, rfl, hM⟩ := hrel
    by_cases hkn : k < n
    · by_cases hk6 : k < 6
      · obtain ⟨ad, d, rfl, hv, hg, _⟩ := hM.elemS (A := A) (n := n) (l := l) (List.mem_cons_of_mem _ hF) hkn
        have HT := Lib.hid (take_snoc_at _ _ _ (fewL_at hk6 hg))
        have HC := Lib.hid (cut70 d)
        clear hg
        go_wp2_with (first | (first | ((with_reducible refine at_load' ?_); (refine BigFrame.wpList_want (by rfl) fun K hK => ws_rowload rfl rfl (by first | (apply Star.row hM; (repeat (first | assumption | (with_reducible exact mZ) | apply mS)); done) | (apply Star.own hM; (repeat (first | assumption | (with_reducible exact mZ) | apply mS)); done) | (apply Star.arr hM; (focus ((repeat (first | assumption | (with_reducible exact mZ) | apply mS)); done)); assumption)) (by assumption) (by kernel_rfl) (hK _ _ ?_); clear hK K)) | fail) | (go_at_call 16; have hM0 := hM; clear hM; (first | (with_reducible refine (starq (HC.out _) hM0).mono ?_) | fail); clear hM0; rintro _ w ⟨rfl, hM⟩) | (first | ((with_reducible refine at_slice' ?_); (have hM0 := hM; clear hM; refine BigFrame.wpList_want (by rfl) fun K hK => ws_slice_row hM0 (n := 1) rfl 9 1 (.string ByteArray.empty) [sv (cutP d 70)] Try.underlying22 (by kernel_rfl) rfl (by simp [Value.cells, iv, sv, bv]) (by rfl) (by decide) (cs := svs [cutP d 70]) (by rfl) (fun g22 w hM => hK _ _ ?_); clear hM0 hK K)) | fail) | (first | ((with_reducible refine at_call' ?_); (have hM0 := hM; clear hM; refine BigFrame.wpList_want (by rfl) fun K hK => ws_append hM0 rfl rfl rfl 9 ((.string ByteArray.empty)) 1 16 Try.underlying22 (by kernel_rfl) (by rfl) (by decide) (by (repeat (first | (with_reducible exact Take.head) | apply Take.tail)); first | done | fail) (by first | (apply Star.row hM0; (repeat (first | assumption | (with_reducible exact mZ) | apply mS)); done) | (apply Star.own hM0; (repeat (first | assumption | (with_reducible exact mZ) | apply mS)); done) | (apply Star.arr hM0; (focus ((repeat (first | assumption | (with_reducible exact mZ) | apply mS)); done)); assumption)) ((fun u hu => by obtain ⟨s, _, rfl⟩ := List.mem_map.1 hu; rfl)) ((by omega)) (fun A1 c1 w hM hnil => hK _ _ ?_); clear hM0 hK K)) | fail))
        go_roundw
        case rel => exact ⟨k + 1, A1, c1, by omega, by go_num, rfl, by rw [HT.out, svs_app]; exact hM.sel (by repeat (first | (with_reducible exact Sel.refl) | (with_reducible exact Take.head) | (with_reducible apply Take.tail) | (with_reducible apply Sel.cons) | (with_reducible apply Sel.drop)))⟩
        case measure => simp [intOf]; omega
      · obtain rfl : k = 6 := by omega
        obtain rfl : N = 6 := by omega
        clear hN
        go_wp2_with fail
        go_ret
        have h2 := hM.freeze
        rw [List.take_of_length_le (by rw [HNN.out]; omega)] at h2
        exact ⟨_, _, rfl, h2⟩
    · obtain rfl : k = n := by omega
      obtain rfl : N = k := by omega
      clear hN
      go_wp2_with fail
      go_ret
      have h2 := hM.freeze
      rw [List.take_of_length_le (by rw [HNN.out]; omega)] at h2
      exact ⟨_, _, rfl, h2⟩
theorem ex_mul {P : Program} {w : World} {o : Oper} {a : Act} {t ty : TypeId} {x y : Operand} (ho : o.op = .binOp .mul t x y ty) {i j s : Int} (hx : a.eval x = .int .i64 i) (hy : a.eval y = .int .i64 j) (hs : IntKind.i64.wrap (i * j) = s) : (execOp a.eval o).run P w = .ok (.value (.int .i64 s)) w := by
  unfold execOp
  simp only [ho, hx, hy]
  simp [go_sem]
  exact hs
/-- A part of a text. -/
theorem ex_slice_s {P : Program} {w : World} {o : Oper} {a : Act} {t : TypeId} {x y z : Operand} (ho : o.op = .slice t x (some y) (some z) none) (ht : P.underlying t = some .string) {l : List UInt8} (hx : a.eval x = .string ⟨l.toArray⟩) {k k2 : IntKind} {i j : Nat} (hy : a.eval y = .int k (i : Int)) (hz : a.eval z = .int k2 (j : Int))
    (hij : i ≤ j) (hj : j ≤ l.length) {m : List UInt8} (hm : (l.take j).drop i = m) : (execOp a.eval o).run P w = .ok (.value (.string ⟨m.toArray⟩)) w := by
  subst hm
  have hi : (i : Int) ≤ (j : Int) := by omega
  have hj2 : (j : Int) ≤ (l.length : Int) := by omega
  have hr : (Instr.sliceAt t (.string ⟨l.toArray⟩) (some (.int k (i : Int))) (some (.int k2 (j : Int))) none).run P w = .ok (.string ⟨((l.take j).drop i).toArray⟩) w := by
    have h9 := run_slice_string (P := P) w t ⟨l.toArray⟩ k k2 (i : Int) (j : Int) ht (by omega) hi (by rw [bsize]; exact hj2)
    simp only [Int.toNat_natCast, extract_mid] at h9
    simp [Instr.sliceAt, go_sem, run_underlying ht, h9]
  unfold execOp
  simp only [ho, hx, hy, hz, Option.map_some, Option.map_none, hr, Sem.run_bind, Sem.run_pure, Result.andThen_ok]
def cuts64 (l : List (List UInt8)) : List (List UInt8) := (fewL l).map fun s => cutP s 64
theorem cuts64_len (l : List (List UInt8)) : (cuts64 l).length = (fewL l).length := by simp [cuts64]
theorem cuts64_at {l : List (List UInt8)} {k : Nat} {d : List UInt8} (h : (fewL l)[k]? = some d) : (cuts64 l)[k]? = some (cutP d 64) := by
  unfold cuts64
  rw [List.getElem?_map, h]
  rfl
theorem cuts64_big (l : List (List UInt8)) : anyBig (cuts64 l) = false := by
  unfold anyBig
  refine List.any_eq_false.2 fun s hs => ?_
  obtain ⟨d, _, rfl⟩ := List.mem_map.1 hs
  have := cut64_le d
  simp; omega
set_option maxRecDepth 100000 in
set_option maxHeartbeats 16000000 in
theorem sectorSure_walk {F : List SProp} (A0 : Option Addr) (n0 c0 : Nat) (l0 : List (List UInt8)) (y0 : n0 ≤ 9223372036854775807) (_z0 : ∀ x ∈ l0, x.length ≤ 9223372036854775807) (A1 : Option Addr) (n1 c1 : Nat) (l1 : List (List UInt8)) (y1 : n1 ≤ 9223372036854775807) (_z1 : ∀ x ∈ l1, x.length ≤ 9223372036854775807) (x : Int) (_x1 : -9223372036854775808 ≤ x) (_x2 : x ≤ 9223372036854775807) (A3 : Option Addr) (n3 c3 : Nat) (ch : List Int) (y3 : n3 ≤ 9223372036854775807) (z3 : ∀ x ∈ ch, -9223372036854775808 ≤ x ∧ x ≤ 9223372036854775807) (w : World) (hM : Star F w) (hF0 : rowE 1 A0 n0 (svs l0) ∈ F) (hF1 : rowE 1 A1 n1 (svs l1) ∈ F) (hF3 : rowE 1 A3 n3 (ivs ch) ∈ F) :
    Calls Try.prog 4 #[.slice A0 n0 c0, .slice A1 n1 c1, .int .i64 x, .slice A3 n3 c3] w fun r w' => r = .returned (.bool true) ∧ Star F w' := by
  obtain ⟨p, hp⟩ : ∃ p : Nat, min (max x 0) 6 = (p : Int) := ⟨(min (max x 0) 6).toNat, by omega⟩
  have hp6 : p ≤ 6 := by omega
  have HF0 := Lib.hid (fun (L : List SProp) (w : World) (hM : Star L w) (h : rowE 1 A0 n0 (svs l0) ∈ L) => few_star l0 A0 n0 c0 y0 w hM h)
  have HF1 := Lib.hid (fun (L : List SProp) (w : World) (hM : Star L w) (h : rowE 1 A1 n1 (svs l1) ∈ L) => few_star l1 A1 n1 c1 y1 w hM h)
  have hk0 := fewL_len l0
  have hk1 := fewL_len l1
  obtain ⟨m0, hm0⟩ : ∃ m, (fewL l0).length = m := ⟨_, rfl⟩
  obtain ⟨m1, hm1⟩ : ∃ m, (fewL l1).length = m := ⟨_, rfl⟩
  rw [hm0] at HF0 hk0
  rw [hm1] at HF1 hk1
  have HM0 := Lib.hid hm0
  have HM1 := Lib.hid hm1
  have HZ3 := Lib.hid z3
  clear hm0 hm1 _z0 _z1 z3
  go_enter Try.func4, Try.ntmps4
  go_wp2_with (first | (go_at_call 19; have hM0 := hM; clear hM; (first | (with_reducible refine (awake03 _ hM0).mono ?_) | fail); clear hM0; rintro _ w ⟨rfl, hM⟩) | (go_at_call 20; have hM0 := hM; clear hM; (first | (with_reducible refine (new_u (N := 12) (by decide) _ hM0).mono ?_) | fail); clear hM0; rintro _ w ⟨a, D0, h0, rfl, hM⟩) | (first | ((with_reducible refine at_slice' ?_); (have hM0 := hM; clear hM; refine BigFrame.wpList_want (by rfl) fun K hK => ws_slice_own hM0 (n := 0) rfl 9 1 (.string ByteArray.empty) [] Try.underlying22 (by kernel_rfl) rfl (by simp [Value.cells, iv, sv, bv]) (by rfl) (by decide) (by decide) (cs := svs []) (by rfl) (fun g27 w hM => hK _ _ ?_); clear hM0 hK K)) | fail) | (go_at_call 21; have hM0 := hM; clear hM; (first | (with_reducible refine (HF0.out _ _ hM0 (by (repeat (first | assumption | (with_reducible exact mZ) | apply mS)); first | done | fail)).mono ?_) | fail); clear hM0; rintro _ w ⟨B0, d0, rfl, hM⟩))
  obtain ⟨wq, rfl⟩ : ∃ wq : World, wq = w := ⟨_, rfl⟩
  go_loopw [10, 31] (fun o i wr => ∃ (k : Nat) (B : Option Addr) (cb : Nat), k ≤ m0 ∧ i = .int .i64 k ∧ o = .slice B k cb ∧ Star (ownE 9 1 B k cb (svs ((cuts64 l0).take k)) :: rowE 1 B0 m0 (svs (fewL l0)) :: diskE a D0 :: F) wr) (fun _ i _ => m0 - (intOf i).toNat)
  case atStart => exact ⟨0, _, _, by omega, rfl, rfl, (hM.sel (by repeat (first | (with_reducible exact Sel.refl) | (with_reducible exact Take.head) | (with_reducible apply Take.tail) | (with_reducible apply Sel.cons) | (with_reducible apply Sel.drop))) : Star (ownE 9 1 (some ⟨g27, 0, none⟩) 0 0 (svs []) :: rowE 1 B0 m0 (svs (fewL l0)) :: diskE a D0 :: F) _)⟩
  case round =>
    clear hM
    obtain ⟨k, B, cb, hk, rfl, rfl, hM⟩ := hrel
    by_cases hkn : k < m0
    · obtain ⟨ad, d, rfl, hv, hg, _⟩ := hM.elemS (A := B0) (n := m0) (l := fewL l0) (by (repeat (first | assumption | (with_reducible exact mZ) | apply mS)); first | done | fail) hkn
      have HT := Lib.hid (take_snoc_at _ _ _ (cuts64_at hg))
      have HC := Lib.hid (cut64 d)
      clear hg
      go_wp2_with (first | (first | ((with_reducible refine at_load' ?_); (refine BigFrame.wpList_want (by rfl) fun K hK => ws_rowload rfl rfl (by first | (apply Star.row hM; (repeat (first | assumption | (with_reducible exact mZ) | apply mS)); done) | (apply Star.own hM; (repeat (first | assumption | (with_reducible exact mZ) | apply mS)); done) | (apply Star.arr hM; (focus ((repeat (first | assumption | (with_reducible exact mZ) | apply mS)); done)); assumption)) (by assumption) (by kernel_rfl) (hK _ _ ?_); clear hK K)) | fail) | (go_at_call 16; have hM0 := hM; clear hM; (first | (with_reducible refine (starq (HC.out _) hM0).mono ?_) | fail); clear hM0; rintro _ w ⟨rfl, hM⟩) | (first | ((with_reducible refine at_slice' ?_); (have hM0 := hM; clear hM; refine BigFrame.wpList_want (by rfl) fun K hK => ws_slice_row hM0 (n := 1) rfl 9 1 (.string ByteArray.empty) [sv (cutP d 64)] Try.underlying22 (by kernel_rfl) rfl (by simp [Value.cells, iv, sv, bv]) (by rfl) (by decide) (cs := svs [cutP d 64]) (by rfl) (fun g38 w hM => hK _ _ ?_); clear hM0 hK K)) | fail) | (first | ((with_reducible refine at_call' ?_); (have hM0 := hM; clear hM; refine BigFrame.wpList_want (by rfl) fun K hK => ws_append hM0 rfl rfl rfl 9 ((.string ByteArray.empty)) 1 16 Try.underlying22 (by kernel_rfl) (by rfl) (by decide) (by (repeat (first | (with_reducible exact Take.head) | apply Take.tail)); first | done | fail) (by first | (apply Star.row hM0; (repeat (first | assumption | (with_reducible exact mZ) | apply mS)); done) | (apply Star.own hM0; (repeat (first | assumption | (with_reducible exact mZ) | apply mS)); done) | (apply Star.arr hM0; (focus ((repeat (first | assumption | (with_reducible exact mZ) | apply mS)); done)); assumption)) ((fun u hu => by obtain ⟨s, _, rfl⟩ := List.mem_map.1 hu; rfl)) ((by omega)) (fun Ax cx w hM hnil => hK _ _ ?_); clear hM0 hK K)) | fail))
      go_roundw
      case rel => exact ⟨k + 1, Ax, cx, by omega, by go_num, rfl, by rw [HT.out, svs_app]; exact hM.sel (by repeat (first | (with_reducible exact Sel.refl) | (with_reducible exact Take.head) | (with_reducible apply Take.tail) | (with_reducible apply Sel.cons) | (with_reducible apply Sel.drop)))⟩
      case measure => simp [intOf]; omega
    · obtain rfl : k = m0 := by omega
      rw [List.take_of_length_le (by rw [cuts64_len, HM0.out]; omega)] at hM
      replace hM := hM.freeze
      go_wp2_with (first | (first | ((with_reducible refine at_slice' ?_); (have hM0 := hM; clear hM; refine BigFrame.wpList_want (by rfl) fun K hK => ws_slice_own hM0 (n := 0) rfl 9 1 (.string ByteArray.empty) [] Try.underlying22 (by kernel_rfl) rfl (by simp [Value.cells, iv, sv, bv]) (by rfl) (by decide) (by decide) (cs := svs []) (by rfl) (fun g41 w hM => hK _ _ ?_); clear hM0 hK K)) | fail) | (go_at_call 21; have hM0 := hM; clear hM; (first | (with_reducible refine (HF1.out _ _ hM0 (by (repeat (first | assumption | (with_reducible exact mZ) | apply mS)); first | done | fail)).mono ?_) | fail); clear hM0; rintro _ w ⟨B1, d1, rfl, hM⟩))
      obtain ⟨wq2, rfl⟩ : ∃ wq : World, wq = w := ⟨_, rfl⟩
      go_loopw [13, 45] (fun o i wr => ∃ (j : Nat) (B2 : Option Addr) (cb2 : Nat), j ≤ m1 ∧ i = .int .i64 j ∧ o = .slice B2 j cb2 ∧ Star (ownE 9 1 B2 j cb2 (svs ((cuts64 l1).take j)) :: rowE 1 B1 m1 (svs (fewL l1)) :: rowE 1 B k (svs (cuts64 l0)) :: diskE a D0 :: F) wr) (fun _ i _ => m1 - (intOf i).toNat)
      case atStart => exact ⟨0, _, _, by omega, rfl, rfl, (hM.sel (by repeat (first | (with_reducible exact Sel.refl) | (with_reducible exact Take.head) | (with_reducible apply Take.tail) | (with_reducible apply Sel.cons) | (with_reducible apply Sel.drop))) : Star (ownE 9 1 (some ⟨g41, 0, none⟩) 0 0 (svs []) :: rowE 1 B1 m1 (svs (fewL l1)) :: rowE 1 B k (svs (cuts64 l0)) :: diskE a D0 :: F) _)⟩
      case round =>
        clear hM
        obtain ⟨j, B2, cb2, hj, rfl, rfl, hM⟩ := hrel
        by_cases hjn : j < m1
        · obtain ⟨ad, d, rfl, hv, hg, _⟩ := hM.elemS (A := B1) (n := m1) (l := fewL l1) (by (repeat (first | assumption | (with_reducible exact mZ) | apply mS)); first | done | fail) hjn
          have HT := Lib.hid (take_snoc_at _ _ _ (cuts64_at hg))
          have HC := Lib.hid (cut64 d)
          clear hg
          go_wp2_with (first | (first | ((with_reducible refine at_load' ?_); (refine BigFrame.wpList_want (by rfl) fun K hK => ws_rowload rfl rfl (by first | (apply Star.row hM; (repeat (first | assumption | (with_reducible exact mZ) | apply mS)); done) | (apply Star.own hM; (repeat (first | assumption | (with_reducible exact mZ) | apply mS)); done) | (apply Star.arr hM; (focus ((repeat (first | assumption | (with_reducible exact mZ) | apply mS)); done)); assumption)) (by assumption) (by kernel_rfl) (hK _ _ ?_); clear hK K)) | fail) | (go_at_call 16; have hM0 := hM; clear hM; (first | (with_reducible refine (starq (HC.out _) hM0).mono ?_) | fail); clear hM0; rintro _ w ⟨rfl, hM⟩) | (first | ((with_reducible refine at_slice' ?_); (have hM0 := hM; clear hM; refine BigFrame.wpList_want (by rfl) fun K hK => ws_slice_row hM0 (n := 1) rfl 9 1 (.string ByteArray.empty) [sv (cutP d 64)] Try.underlying22 (by kernel_rfl) rfl (by simp [Value.cells, iv, sv, bv]) (by rfl) (by decide) (cs := svs [cutP d 64]) (by rfl) (fun g52 w hM => hK _ _ ?_); clear hM0 hK K)) | fail) | (first | ((with_reducible refine at_call' ?_); (have hM0 := hM; clear hM; refine BigFrame.wpList_want (by rfl) fun K hK => ws_append hM0 rfl rfl rfl 9 ((.string ByteArray.empty)) 1 16 Try.underlying22 (by kernel_rfl) (by rfl) (by decide) (by (repeat (first | (with_reducible exact Take.head) | apply Take.tail)); first | done | fail) (by first | (apply Star.row hM0; (repeat (first | assumption | (with_reducible exact mZ) | apply mS)); done) | (apply Star.own hM0; (repeat (first | assumption | (with_reducible exact mZ) | apply mS)); done) | (apply Star.arr hM0; (focus ((repeat (first | assumption | (with_reducible exact mZ) | apply mS)); done)); assumption)) ((fun u hu => by obtain ⟨s, _, rfl⟩ := List.mem_map.1 hu; rfl)) ((by omega)) (fun Ax cx w hM hnil => hK _ _ ?_); clear hM0 hK K)) | fail))
          go_roundw
          case rel => exact ⟨j + 1, Ax, cx, by omega, by go_num, rfl, by rw [HT.out, svs_app]; exact hM.sel (by repeat (first | (with_reducible exact Sel.refl) | (with_reducible exact Take.head) | (with_reducible apply Take.tail) | (with_reducible apply Sel.cons) | (with_reducible apply Sel.drop)))⟩
          case measure => simp [intOf]; omega
        · obtain rfl : j = m1 := by omega
          rw [List.take_of_length_le (by rw [cuts64_len, HM1.out]; omega)] at hM
          replace hM := hM.freeze
          have HB0 := Lib.hid (cuts64_big l0)
          have HB1 := Lib.hid (cuts64_big l1)
          go_wp2_with (first | (go_at_call 22; have hM0 := hM; clear hM; (first | (with_reducible refine (write_u (x := 6) (ts := cuts64 l0) 6 rfl h0.out.ok (by rw [h0.out.len]; omega) HB0.out h0.out.armed _ (hM0.take (x := diskE a D0) (by (repeat (first | (with_reducible exact Take.head) | apply Take.tail)); first | done | fail)) (by (repeat (first | assumption | (with_reducible exact mZ) | apply mS)); first | done | fail)).mono ?_) | fail); clear hM0; rintro _ w ⟨D1, h1, rfl, hM⟩) | (go_at_call 23; have hM0 := hM; clear hM; (first | (with_reducible refine (sync_u h1.out.ok (h1.out.armed.trans h0.out.armed) _ (hM0.take (x := diskE a D1) (by (repeat (first | (with_reducible exact Take.head) | apply Take.tail)); first | done | fail))).mono ?_) | fail); clear hM0; rintro _ w ⟨D2, h2, rfl, hM⟩) | (go_at_call 24; have hM0 := hM; clear hM; (first | (with_reducible refine (read_u (x := 6) (y := 6) 6 6 rfl rfl h2.out.ok (by rw [h2.out.len, h1.out.sure, h0.out.len]; decide) (h2.out.armed.trans (h1.out.armed.trans h0.out.armed)) _ (hM0.take (x := diskE a D2) (by (repeat (first | (with_reducible exact Take.head) | apply Take.tail)); first | done | fail))).mono ?_) | fail); clear hM0; rintro _ w ⟨D3, h3, rfl, hM⟩) | (go_at_call 22; have hM0 := hM; clear hM; (first | (with_reducible refine (write_u (x := (p : Int)) (ts := cuts64 l1) p rfl h3.out.ok (by rw [h3.out.sure, h2.out.len, h1.out.sure, h0.out.len]; omega) HB1.out (h3.out.armed.trans (h2.out.armed.trans (h1.out.armed.trans h0.out.armed))) _ (hM0.take (x := diskE a D3) (by (repeat (first | (with_reducible exact Take.head) | apply Take.tail)); first | done | fail)) (by (repeat (first | assumption | (with_reducible exact mZ) | apply mS)); first | done | fail)).mono ?_) | fail); clear hM0; rintro _ w ⟨D4, h4, rfl, hM⟩) | (go_at_call 25; have hM0 := hM; clear hM; (first | (with_reducible refine (crash_u (ch := ch) h4.out.ok y3 HZ3.out _ (hM0.take (x := diskE a D4) (by (repeat (first | (with_reducible exact Take.head) | apply Take.tail)); first | done | fail)) (by (repeat (first | assumption | (with_reducible exact mZ) | apply mS)); first | done | fail)).mono ?_) | fail); clear hM0; rintro _ w ⟨D5, h5, rfl, hM⟩) | (go_at_call 24; have hM0 := hM; clear hM; (first | (with_reducible refine (read_u (x := 6) (y := 6) 6 6 rfl rfl h5.out.ok (by rw [h5.out.len, h4.out.sure, h3.out.sure, h2.out.len, h1.out.sure, h0.out.len]; decide) h5.out.armed _ (hM0.take (x := diskE a D5) (by (repeat (first | (with_reducible exact Take.head) | apply Take.tail)); first | done | fail))).mono ?_) | fail); clear hM0; rintro _ w ⟨D6, h6, rfl, hM⟩))
          have e2 : D2.sure.length = 12 := by rw [h2.out.len, h1.out.sure, h0.out.len]
          have e5 : D5.sure.length = 12 := by rw [h5.out.len, h4.out.sure, h3.out.sure, e2]
          have hlw := rdD_len h2.out.ok 6 6 (by rw [e2]; decide)
          have hln := rdD_len h5.out.ok 6 6 (by rw [e5]; decide)
          have HW : Hid (∀ i, i < 6 → ((rdD D2 6 6).drop (64 * i)).take 64 = D2.nw (6 + i)) := fun i hi => rdD_at h2.out.ok 6 6 i (by rw [e2]; decide) hi
          have HN : Hid (∀ i, i < 6 → ((rdD D5 6 6).drop (64 * i)).take 64 = D5.nw (6 + i)) := fun i hi => rdD_at h5.out.ok 6 6 i (by rw [e5]; decide) hi
          have HSAME : Hid (∀ i, i < 6 → ¬ (p ≤ 6 + i ∧ 6 + i < p + j) → D5.nw (6 + i) = D2.nw (6 + i)) := fun i hi hne => by
            have hl4 : D4.l (6 + i) = false := by
              rw [h4.out.l, h3.out.l, h2.out.l, cuts64_len, HM1.out, decide_eq_false hne]
              rfl
            rw [h5.out.nw, h5.out.calm _ hl4 (by rw [h4.out.sure, h3.out.sure, e2]; omega)]
            show D4.sure.getD _ [] = _
            rw [h4.out.sure, h3.out.sure]
            show D2.su (6 + i) = _
            rw [h2.out.su, h2.out.nw]
          obtain ⟨wa, hwa⟩ : ∃ z, rdD D2 6 6 = z := ⟨_, rfl⟩
          obtain ⟨no, hno⟩ : ∃ z, rdD D5 6 6 = z := ⟨_, rfl⟩
          rw [hwa] at hlw HW ⊢
          rw [hno] at hln HN ⊢
          clear hwa hno e2 e5
          have hlw2 : wa.length = 384 := hlw
          have hln2 : no.length = 384 := hln
          clear hlw hln
          obtain ⟨wq3, rfl⟩ : ∃ wq : World, wq = w := ⟨_, rfl⟩
          have hMF : Star F wq3 := hM.sel (by repeat (first | (with_reducible exact Sel.refl) | (with_reducible exact Take.head) | (with_reducible apply Take.tail) | (with_reducible apply Sel.cons) | (with_reducible apply Sel.drop)))
          clear hM
          have hM := hMF
          clear hMF
          go_loopw [87] (fun i wr => ∃ k : Nat, k ≤ 6 ∧ i = .int .i64 k ∧ Star F wr) (fun i _ => 6 - (intOf i).toNat)
          case atStart => exact ⟨0, by omega, rfl, hM⟩
          case round =>
            clear hM
            obtain ⟨q, hq, rfl, hM⟩ := hrel
            by_cases hq6 : q < 6
            · have hA1 := HW.out q hq6
              have hA2 := HN.out q hq6
              have hSM := HSAME.out q hq6
              obtain ⟨a1, ha1⟩ : ∃ z, D2.nw (6 + q) = z := ⟨_, rfl⟩
              obtain ⟨a2, ha2⟩ : ∃ z, D5.nw (6 + q) = z := ⟨_, rfl⟩
              rw [ha1] at hA1 hSM
              rw [ha2] at hA2 hSM
              have hw1 : Hid (List.drop (64 * q) (List.take (64 * q + 64) wa) = a1) := by show _ = _; rw [← hA1, List.drop_take, Nat.add_sub_cancel_left]
              have hw2 : Hid (List.drop (64 * q) (List.take (64 * q + 64) no) = a2) := by show _ = _; rw [← hA2, List.drop_take, Nat.add_sub_cancel_left]
              clear ha1 ha2 hA1 hA2
              have i1 : (64 : Int) * (q : Int) + 64 ≤ 384 := by omega
              have i2 : (64 : Int) * (q : Int) ≤ 64 * (q : Int) + 64 := by omega
              have HMU : Hid (IntKind.i64.wrap (64 * (q : Int)) = ((64 * q : Nat) : Int)) := by show _ = _; rw [IntWalk.i64_in _ (by omega)]; omega
              have HAD : Hid (IntKind.i64.wrap (((64 * q : Nat) : Int) + 64) = ((64 * q + 64 : Nat) : Int)) := by show _ = _; rw [IntWalk.i64_in _ (by omega)]; omega
              have hcases : (p ≤ 6 + q ∧ ¬ (6 + q < p + j) ∧ a1 = a2) ∨ (p ≤ 6 + q ∧ 6 + q < p + j ∧ a1 = a2) ∨ (p ≤ 6 + q ∧ 6 + q < p + j ∧ a1 ≠ a2) := by
                have t1 : p ≤ 6 + q := by omega
                by_cases t2 : 6 + q < p + j
                · by_cases t3 : a1 = a2
                  · exact .inr (.inl ⟨t1, t2, t3⟩)
                  · exact .inr (.inr ⟨t1, t2, t3⟩)
                · exact .inl ⟨t1, t2, (hSM (by omega)).symm⟩
              clear hSM
              rcases hcases with ⟨t1, t2, rfl⟩ | ⟨t1, t2, rfl⟩ | ⟨t1, t2, t3⟩
              all_goals
                have u1 : (p : Int) ≤ 6 + (q : Int) := by omega
                first | (have u2 : decide (6 + (q : Int) < (p : Int) + (j : Int)) = false := by simp; omega) | (have u2 : (6 : Int) + (q : Int) < (p : Int) + (j : Int) := by omega) | skip
                go_wp2_with fail
                (refine region_RS ([]) [] (by kernel_rfl) hM ?_; clear hM; change RS _ _ _ _ _ _ 16 (Array.replicate 16 false) _ _; refine RS_take (i := 0) rfl (by decide +kernel) (fun _ _ _ h => h) (by first | (intro x hx; (repeat (first | exact hx | apply mS)); done) | ((repeat (refine List.forall_mem_cons.2 ⟨(by (repeat (first | assumption | (with_reducible exact mZ) | apply mS)); first | done | fail), ?_⟩)); intro x hx; first | (cases hx; done) | ((repeat (first | exact hx | apply mS)); done))) (stab_pure (by rfl) (fun w => (by go_simp; try with_reducible rfl))) ?_; simp only [Act.put, List.setIfInBounds_toArray, List.set_cons_zero, List.set_cons_succ]; refine RS_take (i := 1) rfl (by decide +kernel) (fun _ _ _ h => h) (by first | (intro x hx; (repeat (first | exact hx | apply mS)); done) | ((repeat (refine List.forall_mem_cons.2 ⟨(by (repeat (first | assumption | (with_reducible exact mZ) | apply mS)); first | done | fail), ?_⟩)); intro x hx; first | (cases hx; done) | ((repeat (first | exact hx | apply mS)); done))) (stab_pure (by rfl) (fun w => (by go_simp; try with_reducible rfl))) ?_; simp only [Act.put, List.setIfInBounds_toArray, List.set_cons_zero, List.set_cons_succ]; refine RS_take (i := 2) rfl (by decide +kernel) (fun _ _ _ h => h) (by first | (intro x hx; (repeat (first | exact hx | apply mS)); done) | ((repeat (refine List.forall_mem_cons.2 ⟨(by (repeat (first | assumption | (with_reducible exact mZ) | apply mS)); first | done | fail), ?_⟩)); intro x hx; first | (cases hx; done) | ((repeat (first | exact hx | apply mS)); done))) (stab_read (by rfl) (fun L w hL hM => (ex_mul rfl rfl rfl HMU.out))) ?_; simp only [Act.put, List.setIfInBounds_toArray, List.set_cons_zero, List.set_cons_succ]; refine RS_take (i := 3) rfl (by decide +kernel) (fun _ _ _ h => h) (by first | (intro x hx; (repeat (first | exact hx | apply mS)); done) | ((repeat (refine List.forall_mem_cons.2 ⟨(by (repeat (first | assumption | (with_reducible exact mZ) | apply mS)); first | done | fail), ?_⟩)); intro x hx; first | (cases hx; done) | ((repeat (first | exact hx | apply mS)); done))) (stab_pure (by rfl) (fun w => (by go_simp; try with_reducible rfl))) ?_; simp only [Act.put, List.setIfInBounds_toArray, List.set_cons_zero, List.set_cons_succ]; refine RS_take (i := 4) rfl (by decide +kernel) (fun _ _ _ h => h) (by first | (intro x hx; (repeat (first | exact hx | apply mS)); done) | ((repeat (refine List.forall_mem_cons.2 ⟨(by (repeat (first | assumption | (with_reducible exact mZ) | apply mS)); first | done | fail), ?_⟩)); intro x hx; first | (cases hx; done) | ((repeat (first | exact hx | apply mS)); done))) (stab_read (by rfl) (fun L w hL hM => (ex_mul rfl rfl rfl HMU.out))) ?_; simp only [Act.put, List.setIfInBounds_toArray, List.set_cons_zero, List.set_cons_succ]; refine RS_take (i := 5) rfl (by decide +kernel) (fun _ _ _ h => h) (by first | (intro x hx; (repeat (first | exact hx | apply mS)); done) | ((repeat (refine List.forall_mem_cons.2 ⟨(by (repeat (first | assumption | (with_reducible exact mZ) | apply mS)); first | done | fail), ?_⟩)); intro x hx; first | (cases hx; done) | ((repeat (first | exact hx | apply mS)); done))) (stab_read (by rfl) (fun L w hL hM => (ex_add rfl rfl rfl HAD.out))) ?_; simp only [Act.put, List.setIfInBounds_toArray, List.set_cons_zero, List.set_cons_succ]; refine RS_take (i := 6) rfl (by decide +kernel) (fun _ _ _ h => h) (by first | (intro x hx; (repeat (first | exact hx | apply mS)); done) | ((repeat (refine List.forall_mem_cons.2 ⟨(by (repeat (first | assumption | (with_reducible exact mZ) | apply mS)); first | done | fail), ?_⟩)); intro x hx; first | (cases hx; done) | ((repeat (first | exact hx | apply mS)); done))) (stab_read (by rfl) (fun L w hL hM => (ex_slice_s rfl Try.underlying9 rfl rfl rfl (by omega) (by omega) hw1.out))) ?_; simp only [Act.put, List.setIfInBounds_toArray, List.set_cons_zero, List.set_cons_succ]; refine RS_take (i := 7) rfl (by decide +kernel) (fun _ _ _ h => h) (by first | (intro x hx; (repeat (first | exact hx | apply mS)); done) | ((repeat (refine List.forall_mem_cons.2 ⟨(by (repeat (first | assumption | (with_reducible exact mZ) | apply mS)); first | done | fail), ?_⟩)); intro x hx; first | (cases hx; done) | ((repeat (first | exact hx | apply mS)); done))) (stab_pure (by rfl) (fun w => (by go_simp; try with_reducible rfl))) ?_; simp only [Act.put, List.setIfInBounds_toArray, List.set_cons_zero, List.set_cons_succ]; refine RS_take (i := 8) rfl (by decide +kernel) (fun _ _ _ h => h) (by first | (intro x hx; (repeat (first | exact hx | apply mS)); done) | ((repeat (refine List.forall_mem_cons.2 ⟨(by (repeat (first | assumption | (with_reducible exact mZ) | apply mS)); first | done | fail), ?_⟩)); intro x hx; first | (cases hx; done) | ((repeat (first | exact hx | apply mS)); done))) (stab_pure (by rfl) (fun w => (by go_simp; try with_reducible rfl))) ?_; simp only [Act.put, List.setIfInBounds_toArray, List.set_cons_zero, List.set_cons_succ]; refine RS_take (i := 9) rfl (by decide +kernel) (fun _ _ _ h => h) (by first | (intro x hx; (repeat (first | exact hx | apply mS)); done) | ((repeat (refine List.forall_mem_cons.2 ⟨(by (repeat (first | assumption | (with_reducible exact mZ) | apply mS)); first | done | fail), ?_⟩)); intro x hx; first | (cases hx; done) | ((repeat (first | exact hx | apply mS)); done))) (stab_read (by rfl) (fun L w hL hM => (ex_mul rfl rfl rfl HMU.out))) ?_; simp only [Act.put, List.setIfInBounds_toArray, List.set_cons_zero, List.set_cons_succ]; refine RS_take (i := 10) rfl (by decide +kernel) (fun _ _ _ h => h) (by first | (intro x hx; (repeat (first | exact hx | apply mS)); done) | ((repeat (refine List.forall_mem_cons.2 ⟨(by (repeat (first | assumption | (with_reducible exact mZ) | apply mS)); first | done | fail), ?_⟩)); intro x hx; first | (cases hx; done) | ((repeat (first | exact hx | apply mS)); done))) (stab_pure (by rfl) (fun w => (by go_simp; try with_reducible rfl))) ?_; simp only [Act.put, List.setIfInBounds_toArray, List.set_cons_zero, List.set_cons_succ]; refine RS_take (i := 11) rfl (by decide +kernel) (fun _ _ _ h => h) (by first | (intro x hx; (repeat (first | exact hx | apply mS)); done) | ((repeat (refine List.forall_mem_cons.2 ⟨(by (repeat (first | assumption | (with_reducible exact mZ) | apply mS)); first | done | fail), ?_⟩)); intro x hx; first | (cases hx; done) | ((repeat (first | exact hx | apply mS)); done))) (stab_read (by rfl) (fun L w hL hM => (ex_mul rfl rfl rfl HMU.out))) ?_; simp only [Act.put, List.setIfInBounds_toArray, List.set_cons_zero, List.set_cons_succ]; refine RS_take (i := 12) rfl (by decide +kernel) (fun _ _ _ h => h) (by first | (intro x hx; (repeat (first | exact hx | apply mS)); done) | ((repeat (refine List.forall_mem_cons.2 ⟨(by (repeat (first | assumption | (with_reducible exact mZ) | apply mS)); first | done | fail), ?_⟩)); intro x hx; first | (cases hx; done) | ((repeat (first | exact hx | apply mS)); done))) (stab_read (by rfl) (fun L w hL hM => (ex_add rfl rfl rfl HAD.out))) ?_; simp only [Act.put, List.setIfInBounds_toArray, List.set_cons_zero, List.set_cons_succ]; refine RS_take (i := 13) rfl (by decide +kernel) (fun _ _ _ h => h) (by first | (intro x hx; (repeat (first | exact hx | apply mS)); done) | ((repeat (refine List.forall_mem_cons.2 ⟨(by (repeat (first | assumption | (with_reducible exact mZ) | apply mS)); first | done | fail), ?_⟩)); intro x hx; first | (cases hx; done) | ((repeat (first | exact hx | apply mS)); done))) (stab_read (by rfl) (fun L w hL hM => (ex_slice_s rfl Try.underlying9 rfl rfl rfl (by omega) (by omega) hw2.out))) ?_; simp only [Act.put, List.setIfInBounds_toArray, List.set_cons_zero, List.set_cons_succ]; refine RS_take (i := 14) rfl (by decide +kernel) (fun _ _ _ h => h) (by first | (intro x hx; (repeat (first | exact hx | apply mS)); done) | ((repeat (refine List.forall_mem_cons.2 ⟨(by (repeat (first | assumption | (with_reducible exact mZ) | apply mS)); first | done | fail), ?_⟩)); intro x hx; first | (cases hx; done) | ((repeat (first | exact hx | apply mS)); done))) (stab_pure (by rfl) (fun w => (by go_simp; try with_reducible rfl))) ?_; simp only [Act.put, List.setIfInBounds_toArray, List.set_cons_zero, List.set_cons_succ]; refine RS_take (i := 15) rfl (by decide +kernel) (fun _ _ _ h => h) (by first | (intro x hx; (repeat (first | exact hx | apply mS)); done) | ((repeat (refine List.forall_mem_cons.2 ⟨(by (repeat (first | assumption | (with_reducible exact mZ) | apply mS)); first | done | fail), ?_⟩)); intro x hx; first | (cases hx; done) | ((repeat (first | exact hx | apply mS)); done))) (stab_pure (by rfl) (fun w => (by go_simp; try with_reducible rfl))) ?_; simp only [Act.put, List.setIfInBounds_toArray, List.set_cons_zero, List.set_cons_succ]; refine RS_done (by decide +kernel) (.inl (by first | (intro x hx; (repeat (first | exact hx | apply mS)); done) | ((repeat (refine List.forall_mem_cons.2 ⟨(by (repeat (first | assumption | (with_reducible exact mZ) | apply mS)); first | done | fail), ?_⟩)); intro x hx; first | (cases hx; done) | ((repeat (first | exact hx | apply mS)); done)))) (fun w hM => ?_))
                go_wp2_with fail
                go_roundw
                case rel => exact ⟨q + 1, by omega, by go_num, hM⟩
                case measure => simp [intOf]; omega
            · obtain rfl : q = 6 := by omega
              go_wp2_with fail
              go_ret
              exact ⟨rfl, hM⟩
end Go.Proofs.Ytbejifbiffeamaa
set_option linter.unusedSimpArgs false
set_option linter.unusedVariables false
namespace Go.Proofs.Ytbejifbiffeamaa
open Go.RowKit Go.WideShapes Go.ChangeShapes Go.ChangeAt
theorem sectorSure_law (A0 : Option Addr) (n0 c0 : Nat) (l0 : List (List UInt8)) (y0 : n0 ≤ 9223372036854775807) (z0 : ∀ x ∈ l0, x.length ≤ 9223372036854775807) (A1 : Option Addr) (n1 c1 : Nat) (l1 : List (List UInt8)) (y1 : n1 ≤ 9223372036854775807) (z1 : ∀ x ∈ l1, x.length ≤ 9223372036854775807) (l2 : Int) (w2 : -9223372036854775808 ≤ l2) (y2 : l2 ≤ 9223372036854775807) (A3 : Option Addr) (n3 c3 : Nat) (l3 : List Int) (y3 : n3 ≤ 9223372036854775807) (z3 : ∀ x ∈ l3, -9223372036854775808 ≤ x ∧ x ≤ 9223372036854775807) (W : World) (w0 : Rd W 1 A0 n0 (svs l0)) (w1 : Rd W 1 A1 n1 (svs l1)) (w3 : Rd W 1 A3 n3 (ivs l3)) :
    Calls Try.prog 4 #[.slice A0 n0 c0, .slice A1 n1 c1, .int .i64 l2, .slice A3 n3 c3] W fun r w' => r = .returned (.bool true) ∧ Ch [] W w' :=
  (sectorSure_walk A0 n0 c0 l0 y0 z0 A1 n1 c1 l1 y1 z1 l2 w2 y2 A3 n3 c3 l3 y3 z3 W ((((Star.start W).of_old (by (repeat (first | assumption | (with_reducible exact mZ) | apply mS)); first | done | fail) w0).of_old (by (repeat (first | assumption | (with_reducible exact mZ) | apply mS)); first | done | fail) w1).of_old (by (repeat (first | assumption | (with_reducible exact mZ) | apply mS)); first | done | fail) w3) (by (repeat (first | assumption | (with_reducible exact mZ) | apply mS)); first | done | fail) (by (repeat (first | assumption | (with_reducible exact mZ) | apply mS)); first | done | fail) (by (repeat (first | assumption | (with_reducible exact mZ) | apply mS)); first | done | fail)).mono fun _ _ ⟨h1, h2⟩ => ⟨h1, h2.old (by (repeat (first | assumption | (with_reducible exact mZ) | apply mS)); first | done | fail)⟩
theorem sectorSure_own : ownKnob Try.prog.godebug = none := by kernel_rfl
set_option maxRecDepth 100000 in
theorem sectorSure_lifted (os : Os) (started : os.Started) (H : Type) (enc : TypeId × Value → H) :
    ReturnsInHanded {} Try.checked os 4 .any (Rows.sectorSureSpec.pre6 enc Try.prog Try.f4 Rows.sectorSureRow.domain false) (Rows.sectorSureSpec.post enc Try.prog Try.f4 false true false false) := by
  refine returnsInHanded_of_change (C := Try.checked) sectorSure_own started (by kernel_rfl) Try.func4
    (ChangeSpec.witness6 (enc := enc) (C := Try.checked) false ⟨#[], #[.slice none 0 0, .slice none 0 0, .int .i64 0, .slice none 0 0], []⟩ 8 (by kernel_rfl) (by kernel_rfl) (by kernel_rfl) (by kernel_rfl)) ?_
  intro W base args ds gs before hval0 hW hcnd _
  have hval : ∀ (j : Nat) t v, Try.f4.params[j]? = some t → args[j]? = some v → Value.okWide Try.prog W .any base t v := hval0
  have hW' := hW
  obtain ⟨p, q, hA0, hV, rfl, hfz, hnd⟩ := hW
  have hA : DataW.TrodAll enc Try.prog W 0 (fun _ => true) true Try.f4.params.toList args.toList ds p := hA0
  have hA1 := hA
  rw [Try.params4] at hA hval
  obtain ⟨v0, vs0, d0, ds0, p0, q0, hargs, rfl, rfl, h0, r0⟩ := trodAll_cons hA
  obtain ⟨v1, vs1, d1, ds1, p1, q1, rfl, rfl, rfl, h1, r1⟩ := trodAll_cons r0
  obtain ⟨v2, vs2, d2, ds2, p2, q2, rfl, rfl, rfl, h2, r2⟩ := trodAll_cons r1
  obtain ⟨v3, vs3, d3, ds3, p3, q3, rfl, rfl, rfl, h3, r3⟩ := trodAll_cons r2
  obtain ⟨rfl, rfl, rfl⟩ := trodAll_nil r3
  obtain rfl : args = #[v0, v1, v2, v3] := by cases args; simp_all
  obtain ⟨rfl, rfl⟩ := trodVars_none hV
  obtain ⟨A0, n0, c0, l0, rfl, w0, y0, z0⟩ := open_strl Try.underlying22 Try.underlying9 (by kernel_rfl) (hval 0 22 v0 rfl rfl) h0
  obtain ⟨A1, n1, c1, l1, rfl, w1, y1, z1⟩ := open_strl Try.underlying22 Try.underlying9 (by kernel_rfl) (hval 1 22 v1 rfl rfl) h1
  obtain ⟨l2, rfl, w2, y2⟩ := open_i64 Try.underlying3 (hval 2 3 v2 rfl rfl) h2
  obtain ⟨A3, n3, c3, l3, rfl, w3, y3, z3⟩ := open_intl Try.underlying23 Try.underlying3 (by kernel_rfl) (hval 3 23 v3 rfl rfl) h3
  clear hA0 hval0
  refine (sectorSure_law A0 n0 c0 l0 y0 z0 A1 n1 c1 l1 y1 z1 l2 w2 y2 A3 n3 c3 l3 y3 z3 W w0 w1 w3).mono fun e W' ⟨he, hg⟩ => ?_
  subst he
  have hlt := fun x hx => hW'.lt x hx
  exact ⟨_, rfl, post_of_below hW' (fun _ _ _ => (trodAll_cons_mk (shut_bool Try.underlying4 _) trodAll_mk0))
    (fun sp hsp => args_stay (by kernel_rfl) hg.below sp _ _ _ _ (by kernel_rfl) hA1 (fun x hx => hlt x (List.mem_append.2 (.inl hx))) (fun x hx => hsp x (List.mem_append.2 (.inl hx)))) (fun _ _ => rfl) rfl
    hg.below (ok_one (by kernel_rfl) rfl (okWide_bool_mk Try.underlying4 _))⟩
theorem sectorSure_over : Rows.sectorSureRow.holds Try.pinned (OpenSpec.ofChange Rows.sectorSureSpec) :=
  OpenClaim.holds_of_wide 4 Try.f4 rfl rfl rfl rfl rfl rfl rfl ⟨rfl, rfl, rfl, rfl, rfl⟩ rfl rfl rfl rfl rfl (by kernel_rfl) Try.func4 (by kernel_rfl)
    (of_decide_eq_true (by kernel_rfl)) (by unfold Func.isWrapper; first | (rw [if_pos (by decide +kernel)]; kernel_rfl) | (rw [if_neg (by decide +kernel)]; exact ⟨rfl, rfl⟩))
    (fun os started H enc _ => sectorSure_lifted os started H enc)
/-- THE STATEMENT -/
theorem sectorSure_holds : Rows.SectorSureSaid := sectorSure_over
end Go.Proofs.Ytbejifbiffeamaa
