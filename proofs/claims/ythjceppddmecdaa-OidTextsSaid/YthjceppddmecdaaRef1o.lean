/- The walk of the reference's sum of bytes. No condition but that not too many bytes come. -/
import Derived.Test.YthjceppddmecdaaRef1m
import Derived.Test.YthjceppddmecdaaRef1p
set_option linter.unusedSimpArgs false
set_option linter.unusedVariables false
namespace Go.Proofs.Ythjceppddmecdaa
open Go.RowKit
attribute [local go_sem] extract_mid extract_drop bget bsize wrap64_u8 i64_u8 u64_u8 bappend
theorem mixN_zero (s : W8) (l : List UInt8) : mixN s 0 l = s := rfl
theorem bytes_take (s : W8) (k : Nat) (x : UInt32) (h : s.list[k]? = some x) : (s.list.take (k + 1)).flatMap wbytes = (s.list.take k).flatMap wbytes ++ wbytes x := by
  rw [take_snoc_at _ _ _ h]; simp
theorem flat4 (l : List UInt32) : (l.flatMap wbytes).length = 4 * l.length := by
  induction l with
  | nil => rfl
  | cons x l ih => rw [List.flatMap_cons, List.length_append, ih, List.length_cons]; simp [wbytes]; omega
attribute [local irreducible] mix mixN pad
set_option maxRecDepth 100000 in
set_option maxHeartbeats 4000000 in
theorem rOf_star {F : List SProp} (l : List UInt8) (hl : l.length ≤ 1000000000000) (w : World) (hM : Star F w) :
    Calls Try.prog 60 #[.string ⟨l.toArray⟩] w fun r w' => r = .returned (.string ⟨(sha l).toArray⟩) ∧ Star F w' := by
  have hpl := pad_len l
  obtain ⟨m, hm⟩ : ∃ m, m = (l.length + 8) / 64 + 1 := ⟨_, rfl⟩
  have hsha : sha l = (mixN iv0 m (pad l)).bytes := by rw [hm]; rfl
  have hmb : m ≤ 20000000000 := by omega
  rw [← hm] at hpl
  have HP := Lib.hid hpl
  have HS := Lib.hid hsha
  clear hpl hm hsha
  go_enter Try.func60, Try.ntmps60
  go_wp2_with (first | (go_at_call 71; have hM0 := hM; clear hM; (first | (with_reducible refine (padded_star l hl _ hM0).mono ?_) | fail); clear hM0; rintro _ w ⟨rfl, hM⟩) | (first | (have hM0 := hM; clear hM; refine BigFrame.wpList_want (by rfl) fun K hK => ws_slice_row hM0 (n := 8) rfl 95 1 (.int .u32 0) [.int .u32 1779033703, .int .u32 3144134277, .int .u32 1013904242, .int .u32 2773480762, .int .u32 1359893119, .int .u32 2600822924, .int .u32 528734635, .int .u32 1541459225] Try.underlying106 (by kernel_rfl) rfl (by simp [Value.cells, iv, sv, bv]) (by rfl) (by decide) (cs := wvs iv0.list) (by rfl) (fun g1 w hM => hK _ _ ?_); clear hM0 hK K) | fail))
  obtain ⟨P, hP⟩ : ∃ P, P = pad l := ⟨_, rfl⟩
  rw [← hP] at HP HS ⊢
  have hPb : P.length ≤ 1280000000000 := by have := HP.out; omega
  clear hP
  go_loopw [4, 5] (fun h i wr => ∃ (k q : Nat) (A : Option Addr) (c : Nat), k ≤ m ∧ q ≤ P.length ∧ Hid (q = 64 * k) ∧ i = .int .i64 q ∧ h = .slice A 8 c ∧ Star (rowE 1 A 8 (wvs (mixN iv0 k P).list) :: F) wr) (fun _ i _ => P.length - (intOf i).toNat)
  case atStart => exact ⟨0, 0, _, _, by omega, by omega, rfl, rfl, rfl, by rw [mixN_zero]; exact hM⟩
  case round =>
    clear hM
    obtain ⟨k, q, A, c, hk, hqP, hq, rfl, rfl, hM⟩ := hrel
    by_cases hlt : k < m
    · have hq64 : q + 64 ≤ P.length := by have h1 := hq.out; have h2 := HP.out; omega
      have hqlt : q < P.length := by omega
      have HBL : Hid (((P.take (q + 64)).drop q).length = 64) := by show _ = _; simp; omega
      have HB : Hid (mixN iv0 (k + 1) P = mix (mixN iv0 k P) ((P.take (q + 64)).drop q)) := by
        show _ = _
        rw [mixN_succ_last, List.drop_take, ← hq.out, Nat.add_sub_cancel_left]
      go_wp2_with (first | (go_at_call 72; have hM0 := hM; clear hM; (first | (with_reducible refine (mixed_star (mixN iv0 k P) ((P.take (q + 64)).drop q) HBL.out A c _ hM0 (by (repeat (first | assumption | (with_reducible exact List.mem_cons_self) | apply List.mem_cons_of_mem)); first | done | fail)).mono ?_) | fail); clear hM0; rintro _ w ⟨A2, c2, rfl, hM⟩))
      go_roundw
      case rel => exact ⟨k + 1, q + 64, A2, c2, by omega, by omega, (by show _ = _; have := hq.out; omega), by go_num, rfl, by rw [HB.out]; exact hM.sel (by repeat (first | (with_reducible exact Sel.refl) | (with_reducible exact Take.head) | (with_reducible apply Take.tail) | (with_reducible apply Sel.cons) | (with_reducible apply Sel.drop)))⟩
      case measure => simp [intOf]; omega
    · obtain rfl : k = m := by omega
      have hqe : ¬ q < P.length := by have h1 := hq.out; have h2 := HP.out; omega
      obtain ⟨s, hs⟩ : ∃ s, s = mixN iv0 k P := ⟨_, rfl⟩
      rw [← hs] at hM HS
      clear hs
      obtain ⟨ad, rfl⟩ : ∃ ad, A = some ad := by
        have hr : Rd wr 1 A 8 (wvs s.list) := hM.row (by simp)
        obtain ⟨ad, h, _⟩ := hr.2 (by omega)
        exact ⟨ad, h⟩
      go_wp2_with fail
      obtain ⟨wq, rfl⟩ : ∃ wq : World, wq = wr := ⟨_, rfl⟩
      go_loopw [6, 27] (fun out i wr => ∃ (j : Nat) (X : List UInt8), j ≤ 8 ∧ i = .int .i64 j ∧ out = .string ⟨X.toArray⟩ ∧ Hid (X = (s.list.take j).flatMap wbytes) ∧ Star (rowE 1 (some ad) 8 (wvs s.list) :: F) wr) (fun _ i _ => 8 - (intOf i).toNat)
      case atStart => exact ⟨0, [], by omega, rfl, rfl, rfl, hM⟩
      case round =>
        clear hM
        obtain ⟨j, X, hj, rfl, rfl, hX, hM⟩ := hrel
        by_cases hlt : j < 8
        · obtain ⟨x, hx⟩ : ∃ x, s.list[j]? = some x := ⟨_, List.getElem?_eq_getElem (by show j < 8; exact hlt)⟩
          have hv := wvs_get _ _ _ hx
          have hT := bytes_take s j x hx
          have h4 := flat4 (s.list.take j)
          have h5 : (s.list.take j).length ≤ 8 := by have := List.length_take_le j s.list; simp; omega
          have h6 : X.length ≤ 32 := by rw [hX.out]; omega
          have h7 : (wbytes x).length ≤ 4 := by simp [wbytes]
          have HT := Lib.hid hT
          clear hT h4 h5 hx
          go_wp2_with (first | (first | (refine BigFrame.wpList_want (by rfl) fun K hK => ws_rowload rfl rfl (by first | (apply Star.row hM; (repeat (first | assumption | (with_reducible exact List.mem_cons_self) | apply List.mem_cons_of_mem)); done) | (apply Star.own hM; (repeat (first | assumption | (with_reducible exact List.mem_cons_self) | apply List.mem_cons_of_mem)); done) | (apply Star.arr hM; (focus ((repeat (first | assumption | (with_reducible exact List.mem_cons_self) | apply List.mem_cons_of_mem)); done)); assumption)) (by assumption) (by kernel_rfl) (hK _ _ ?_); clear hK K) | fail) | (go_at_call 61; have hM0 := hM; clear hM; (first | (with_reducible refine (wbytes_star x _ hM0).mono ?_) | fail); clear hM0; rintro _ w ⟨rfl, hM⟩))
          go_roundw
          case rel => exact ⟨j + 1, X ++ wbytes x, by omega, by go_num, rfl, (by show _ = _; rw [HT.out, hX.out]), hM⟩
          case measure => simp [intOf]; omega
        · obtain rfl : j = 8 := by omega
          go_wp2_with fail
          go_ret
          exact ⟨ret_str (by rw [HS.out, hX.out, List.take_of_length_le (by show 8 ≤ 8; omega)]; rfl), hM.sel (by repeat (first | (with_reducible exact Sel.refl) | (with_reducible exact Take.head) | (with_reducible apply Take.tail) | (with_reducible apply Sel.cons) | (with_reducible apply Sel.drop)))⟩
end Go.Proofs.Ythjceppddmecdaa
