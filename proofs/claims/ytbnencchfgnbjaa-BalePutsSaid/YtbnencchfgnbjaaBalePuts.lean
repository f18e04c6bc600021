/- BalePuts: for all numbers, texts and names the law answers true. No condition. -/
import Derived.Test.YtbnencchfgnbjaaBaleM
import Derived.Test.YtbnencchfgnbjaaLaw
import Derived.Deep.CutBlock
import Derived.Deep.DeepCutAuto
set_option linter.unusedSimpArgs false
set_option linter.unusedVariables false
namespace Go.Proofs.Ytbnencchfgnbjaa
open Go.RowKit
attribute [local go_sem] extract_mid extract_drop bget bsize wrap64_u8 i64_u8 u64_u8 bappend
theorem info_str : (Try.prog.info? 9).map (fun i => (i.zero, i.size, i.bytes)) = some (some (.string ByteArray.empty), 1, 16) := by kernel_rfl
theorem info_idz : (Try.prog.info? 38).map (fun i => (i.zero, i.size, i.bytes)) = some (some (.agg (bvs z32).toArray), 32, 32) := by kernel_rfl
theorem encStrs_le (l : List (List UInt8)) (h : ∀ x ∈ l, x.length ≤ 40) : (encStrs l).length ≤ 49 * l.length := by
  induction l with
  | nil => simp [encStrs]
  | cons a l ih =>
    have h1 := ih fun x hx => h x (List.mem_cons_of_mem _ hx)
    have h2 := h a List.mem_cons_self
    have h3 := encStr_len a
    simp only [encStrs, List.length_append, List.length_cons]
    omega
def cut40 (l : List UInt8) : List UInt8 := cutP l 40
theorem cut40_len (l : List UInt8) : (cut40 l).length ≤ 40 := by have := cutP_len l 40 (by omega); unfold cut40; omega
theorem cut40_any (l : List UInt8) (w : World) : Calls Try.prog 15 #[.string ⟨l.toArray⟩, .int .i64 40] w fun r w' => r = .returned (.string ⟨(cut40 l).toArray⟩) ∧ w = w' := cut_any l 40 (by omega) w
/-- ref.Num of a number, those below 0 as 0. -/
theorem rNum0 {F : List SProp} (w : World) (hM : Star F w) : Calls Try.prog 22 #[.int .u64 0] w fun r w' => r = .returned (.string ⟨(encNum 0).toArray⟩) ∧ Star F w' := rNum_star 0 (by omega) w hM
theorem map_take_snoc {α β : Type} (f : α → β) (l : List α) (k : Nat) (d : α) (h : l.take (k + 1) = l.take k ++ [d]) : (l.map f).take (k + 1) = (l.map f).take k ++ [f d] := by rw [← List.map_take, h, List.map_append, ← List.map_take]; rfl
set_option maxRecDepth 100000 in
set_option maxHeartbeats 4000000 in
theorem balePuts_walk {F : List SProp} (m : Nat) (hm : m ≤ 18446744073709551615) (l : List Int) (texts ids : List (List UInt8)) (A1 A2 A3 : Option Addr) (n1 n2 n3 c1 c2 c3 : Nat)
    (h1 : ∀ x ∈ l, x ≤ 9223372036854775807) (k1 : n1 ≤ 9223372036854775807) (k2 : n2 ≤ 9223372036854775807) (k3 : n3 ≤ 9223372036854775807) (w : World) (hM : Star F w)
    (hF1 : rowE 1 A1 n1 (ivs l) ∈ F) (hF2 : rowE 1 A2 n2 (svs texts) ∈ F) (hF3 : rowE 1 A3 n3 (svs ids) ∈ F) :
    Calls Try.prog 4 #[.int .u64 m, .slice A1 n1 c1, .slice A2 n2 c2, .slice A3 n3 c3] w fun r w' => r = .returned (.bool true) ∧ Star F w' := by
  have HH := Lib.hid h1
  clear h1
  go_enter Try.func4, Try.ntmps4
  go_upto_block 0 with (first | (have hM0 := hM; clear hM; refine wpList_plain rfl fun K hK => ws_slice_own hM0 (n := 0) rfl 9 1 (.string ByteArray.empty) [] Try.underlying34 (by kernel_rfl) rfl (by simp [Value.cells, iv, sv, bv]) (by rfl) (by decide) (by decide) (cs := svs []) (by rfl) (fun g1 w hM => hK _ _ ?_); clear hM0 hK K) | (have hM0 := hM; clear hM; refine wpList_plain rfl fun K hK => ws_slice_own hM0 (n := 0) rfl 3 1 (.int .i64 0) [] Try.underlying33 (by kernel_rfl) rfl (by simp [Value.cells, iv, sv, bv]) (by rfl) (by decide) (by decide) (cs := []) (by rfl) (fun g2 w hM => hK _ _ ?_); clear hM0 hK K))
  go_cut [9, 12] (fun nums few wx => ∃ (k : Nat) (A : Option Addr) (c : Nat), k ≤ 6 ∧ few = .slice A k c ∧ nums = .string ⟨(encNums (l.take k)).toArray⟩ ∧ Star (ownE 3 1 A k c (ivs (l.take k)) :: ownE 9 1 (some ⟨g1, 0, none⟩) 0 0 (svs []) :: F) wx)
  case first =>
    go_wp2_with fail
    go_loopw [9, 12, 13] (fun nums few i wr => ∃ (k : Nat) (A : Option Addr) (c : Nat), k ≤ 6 ∧ k ≤ n1 ∧ i = .int .i64 k ∧ few = .slice A k c ∧ nums = .string ⟨(encNums (l.take k)).toArray⟩ ∧ Star (ownE 3 1 A k c (ivs (l.take k)) :: ownE 9 1 (some ⟨g1, 0, none⟩) 0 0 (svs []) :: F) wr) (fun _ _ i _ => 6 - (intOf i).toNat)
    case atStart => exact ⟨0, _, _, by omega, by omega, rfl, rfl, rfl, hM⟩
    case round =>
      clear hM
      obtain ⟨k, A, c, hk, hkn, rfl, rfl, rfl, hM⟩ := hrel
      by_cases hgo : k < n1 ∧ k < 6
      · obtain ⟨hlt, hk6⟩ := hgo
        obtain ⟨ad, d, rfl, hv, hg, ht⟩ := hM.elemI (A := A1) (n := n1) (l := l) (by repeat (first | assumption | (with_reducible exact List.mem_cons_self) | apply List.mem_cons_of_mem)) hlt
        have hd := HH.out d (List.mem_of_getElem? hg)
        have hb := encNums_len (l.take k)
        have hb2 := List.length_take_le k l
        have HT := Lib.hid ht
        clear ht hg
        have hdm : d < 0 ∧ (max d 0).toNat = 0 ∨ ∃ m : Nat, d = m := by
          by_cases h : d < 0
          · exact .inl ⟨h, by omega⟩
          · exact .inr ⟨d.toNat, by omega⟩
        rcases hdm with ⟨hneg, h0⟩ | ⟨m, rfl⟩
        · have H0 := Lib.hid h0
          clear h0
          have hq0 := encNum_len 0
          go_wp2_with (first | (have hM0 := hM; clear hM; refine wpList_plain rfl fun K hK => ws_slice_row hM0 (n := 1) rfl 3 1 (.int .i64 0) [iv d] Try.underlying33 (by kernel_rfl) rfl (by simp [Value.cells, iv, sv, bv]) (by rfl) (by decide) (cs := ivs [d]) (by rfl) (fun g w hM => hK _ _ ?_); clear hM0 hK K) | (have hM0 := hM; clear hM; refine wpList_plain rfl fun K hK => ws_append hM0 rfl rfl rfl 3 ((.int .i64 0)) 1 8 Try.underlying33 (by kernel_rfl) (by rfl) (by decide) (by repeat (first | (with_reducible exact Take.head) | apply Take.tail)) (by first | (apply Star.row hM0; (repeat (first | assumption | (with_reducible exact List.mem_cons_self) | apply List.mem_cons_of_mem)); done) | (apply Star.own hM0; (repeat (first | assumption | (with_reducible exact List.mem_cons_self) | apply List.mem_cons_of_mem)); done) | (apply Star.arr hM0; (focus ((repeat (first | assumption | (with_reducible exact List.mem_cons_self) | apply List.mem_cons_of_mem)); done)); assumption)) (ivs_one [d]) ((by omega)) (fun A1 c1 w hM hnil => hK _ _ ?_); clear hM0 hK K) | (refine wpList_plain rfl fun K hK => ws_rowload rfl rfl (by first | (apply Star.row hM; (repeat (first | assumption | (with_reducible exact List.mem_cons_self) | apply List.mem_cons_of_mem)); done) | (apply Star.own hM; (repeat (first | assumption | (with_reducible exact List.mem_cons_self) | apply List.mem_cons_of_mem)); done) | (apply Star.arr hM; (focus ((repeat (first | assumption | (with_reducible exact List.mem_cons_self) | apply List.mem_cons_of_mem)); done)); assumption)) (by assumption) (by kernel_rfl) (hK _ _ ?_); clear hK K) | (go_at_call 22; have hM0 := hM; clear hM; (with_reducible refine (rNum0 _ hM0).mono ?_); clear hM0; rintro _ w ⟨rfl, hM⟩))
          go_roundw
          case rel => exact ⟨k + 1, A1, c1, by omega, by omega, by go_num, rfl, by rw [HT.out, encNums_snoc, H0.out], by rw [HT.out, ivs_app]; exact hM.sel (by repeat (first | (with_reducible exact Sel.refl) | (with_reducible exact Take.head) | (with_reducible apply Take.tail) | (with_reducible apply Sel.cons) | (with_reducible apply Sel.drop)))⟩
          case measure => simp [intOf]; omega
        · have hq0 := encNum_len m
          go_wp2_with (first | (have hM0 := hM; clear hM; refine wpList_plain rfl fun K hK => ws_slice_row hM0 (n := 1) rfl 3 1 (.int .i64 0) [iv m] Try.underlying33 (by kernel_rfl) rfl (by simp [Value.cells, iv, sv, bv]) (by rfl) (by decide) (cs := ivs [(m : Int)]) (by rfl) (fun g w hM => hK _ _ ?_); clear hM0 hK K) | (have hM0 := hM; clear hM; refine wpList_plain rfl fun K hK => ws_append hM0 rfl rfl rfl 3 ((.int .i64 0)) 1 8 Try.underlying33 (by kernel_rfl) (by rfl) (by decide) (by repeat (first | (with_reducible exact Take.head) | apply Take.tail)) (by first | (apply Star.row hM0; (repeat (first | assumption | (with_reducible exact List.mem_cons_self) | apply List.mem_cons_of_mem)); done) | (apply Star.own hM0; (repeat (first | assumption | (with_reducible exact List.mem_cons_self) | apply List.mem_cons_of_mem)); done) | (apply Star.arr hM0; (focus ((repeat (first | assumption | (with_reducible exact List.mem_cons_self) | apply List.mem_cons_of_mem)); done)); assumption)) (ivs_one [(m : Int)]) ((by omega)) (fun A1 c1 w hM hnil => hK _ _ ?_); clear hM0 hK K) | (refine wpList_plain rfl fun K hK => ws_rowload rfl rfl (by first | (apply Star.row hM; (repeat (first | assumption | (with_reducible exact List.mem_cons_self) | apply List.mem_cons_of_mem)); done) | (apply Star.own hM; (repeat (first | assumption | (with_reducible exact List.mem_cons_self) | apply List.mem_cons_of_mem)); done) | (apply Star.arr hM; (focus ((repeat (first | assumption | (with_reducible exact List.mem_cons_self) | apply List.mem_cons_of_mem)); done)); assumption)) (by assumption) (by kernel_rfl) (hK _ _ ?_); clear hK K) | (go_at_call 22; have hM0 := hM; clear hM; (with_reducible refine (rNum_star m (by omega) _ hM0).mono ?_); clear hM0; rintro _ w ⟨rfl, hM⟩))
          go_roundw
          case rel => exact ⟨k + 1, A1, c1, by omega, by omega, by go_num, rfl, by rw [HT.out, encNums_snoc, show (max (m : Int) 0).toNat = m by omega], by rw [HT.out, ivs_app]; exact hM.sel (by repeat (first | (with_reducible exact Sel.refl) | (with_reducible exact Take.head) | (with_reducible apply Take.tail) | (with_reducible apply Sel.cons) | (with_reducible apply Sel.drop)))⟩
          case measure => simp [intOf]; omega
      · go_wp2_with fail
        all_goals
          go_meet
          exact ⟨k, A, c, by omega, rfl, rfl, hM⟩
  case rest =>
    clear hM
    obtain ⟨kf, Af, cf, hkf, rfl, rfl, hM⟩ := hcut
    have hfl : (l.take kf).length ≤ 6 := by have := List.length_take_le kf l; omega
    have hxl : ∀ x ∈ l.take kf, x ≤ 9223372036854775807 := fun x hx => HH.out x (List.mem_of_mem_take hx)
    have hnb := encNums_len (l.take kf)
    generalize l.take kf = few at hM hfl hxl hnb ⊢
    replace hM := (hM.take (x := ownE 3 1 Af kf cf (ivs few)) (by repeat (first | (with_reducible exact Take.head) | apply Take.tail))).freeze
    go_upto_block 2 with (first | (have hM0 := hM; clear hM; refine wpList_plain rfl fun K hK => ws_slice_own hM0 (n := 0) rfl 9 1 (.string ByteArray.empty) [] Try.underlying34 (by kernel_rfl) rfl (by simp [Value.cells, iv, sv, bv]) (by rfl) (by decide) (by decide) (cs := svs []) (by rfl) (fun g3 w hM => hK _ _ ?_); clear hM0 hK K))
    go_cut [10, 14] (fun strs short wx => ∃ (k : Nat) (A : Option Addr) (c : Nat) (sh : List (List UInt8)), k ≤ 6 ∧ sh.length = k ∧ (∀ x ∈ sh, x.length ≤ 40) ∧ short = .slice A k c ∧ strs = .string ⟨(encStrs sh).toArray⟩ ∧ Star (ownE 9 1 A k c (svs sh) :: rowE 1 Af kf (ivs few) :: ownE 9 1 (some ⟨g1, 0, none⟩) 0 0 (svs []) :: F) wx)
    case first =>
      go_wp2_with fail
      go_loopw [10, 14, 15] (fun strs short i wr => ∃ (k : Nat) (A : Option Addr) (c : Nat) (sh : List (List UInt8)), k ≤ 6 ∧ k ≤ n2 ∧ sh.length = k ∧ (∀ x ∈ sh, x.length ≤ 40) ∧ i = .int .i64 k ∧ short = .slice A k c ∧ strs = .string ⟨(encStrs sh).toArray⟩ ∧ Star (ownE 9 1 A k c (svs sh) :: rowE 1 Af kf (ivs few) :: ownE 9 1 (some ⟨g1, 0, none⟩) 0 0 (svs []) :: F) wr) (fun _ _ i _ => 6 - (intOf i).toNat)
      case atStart => exact ⟨0, _, _, [], by omega, by omega, rfl, by simp, rfl, rfl, rfl, hM.sel (by repeat (first | (with_reducible exact Sel.refl) | (with_reducible exact Take.head) | (with_reducible apply Take.tail) | (with_reducible apply Sel.cons) | (with_reducible apply Sel.drop)))⟩
      case round =>
        clear hM
        obtain ⟨k, A, c, sh, hk, hkn, hsh, hs40, rfl, rfl, rfl, hM⟩ := hrel
        have HS := Lib.hid hsh
        have HS4 := Lib.hid hs40
        have hsl := encStrs_le sh hs40
        rw [hsh] at hsl
        clear hsh hs40
        by_cases hgo : k < n2 ∧ k < 6
        · obtain ⟨hlt, hk6⟩ := hgo
          obtain ⟨ad, d, rfl, hv, hg, ht⟩ := hM.elemS (A := A2) (n := n2) (l := texts) (by repeat (first | assumption | (with_reducible exact List.mem_cons_self) | apply List.mem_cons_of_mem)) hlt
          clear ht hg
          obtain ⟨e, he⟩ : ∃ e, e = cut40 d := ⟨_, rfl⟩
          have hel : e.length ≤ 40 := by rw [he]; exact cut40_len d
          have HE := Lib.hid he
          clear he
          have hq := encStr_len e
          go_wp2_with (first | (refine wpList_plain rfl fun K hK => ws_rowload rfl rfl (by first | (apply Star.row hM; (repeat (first | assumption | (with_reducible exact List.mem_cons_self) | apply List.mem_cons_of_mem)); done) | (apply Star.own hM; (repeat (first | assumption | (with_reducible exact List.mem_cons_self) | apply List.mem_cons_of_mem)); done) | (apply Star.arr hM; (focus ((repeat (first | assumption | (with_reducible exact List.mem_cons_self) | apply List.mem_cons_of_mem)); done)); assumption)) (by assumption) (by kernel_rfl) (hK _ _ ?_); clear hK K) | (go_at_call 15; have hM0 := hM; clear hM; (with_reducible refine (starq (HE.out ▸ cut40_any d _) hM0).mono ?_); clear hM0; rintro _ w ⟨rfl, hM⟩) | (have hM0 := hM; clear hM; refine wpList_plain rfl fun K hK => ws_slice_row hM0 (n := 1) rfl 9 1 (.string ByteArray.empty) [sv e] Try.underlying34 (by kernel_rfl) rfl (by simp [Value.cells, iv, sv, bv]) (by rfl) (by decide) (cs := svs [e]) (by rfl) (fun g w hM => hK _ _ ?_); clear hM0 hK K) | (have hM0 := hM; clear hM; refine wpList_plain rfl fun K hK => ws_append hM0 rfl rfl rfl 9 ((.string ByteArray.empty)) 1 16 Try.underlying34 (by kernel_rfl) (by rfl) (by decide) (by repeat (first | (with_reducible exact Take.head) | apply Take.tail)) (by first | (apply Star.row hM0; (repeat (first | assumption | (with_reducible exact List.mem_cons_self) | apply List.mem_cons_of_mem)); done) | (apply Star.own hM0; (repeat (first | assumption | (with_reducible exact List.mem_cons_self) | apply List.mem_cons_of_mem)); done) | (apply Star.arr hM0; (focus ((repeat (first | assumption | (with_reducible exact List.mem_cons_self) | apply List.mem_cons_of_mem)); done)); assumption)) (svs_one [e]) ((by omega)) (fun A1 c1 w hM hnil => hK _ _ ?_); clear hM0 hK K) | (go_at_call 23; have hM0 := hM; clear hM; (with_reducible refine (rStr_star e (by omega) _ hM0).mono ?_); clear hM0; rintro _ w ⟨rfl, hM⟩))
          go_roundw
          case rel => exact ⟨k + 1, A1, c1, sh ++ [e], by omega, by omega, by simp [HS.out], by intro x hx; rcases List.mem_append.1 hx with h | h; exact HS4.out x h; rw [List.mem_singleton.1 h]; exact hel, by go_num, rfl, by rw [encStrs_snoc], by rw [svs_app]; exact hM.sel (by repeat (first | (with_reducible exact Sel.refl) | (with_reducible exact Take.head) | (with_reducible apply Take.tail) | (with_reducible apply Sel.cons) | (with_reducible apply Sel.drop)))⟩
          case measure => simp [intOf]; omega
        · go_wp2_with fail
          all_goals
            go_meet
            exact ⟨k, A, c, sh, by omega, HS.out, HS4.out, rfl, rfl, hM⟩
    case rest =>
      clear hM
      obtain ⟨ks, As, cs, sh, hks, hshl, hs40, rfl, rfl, hM⟩ := hcut
      have hsb := encStrs_le sh hs40
      have HS4 := Lib.hid hs40
      have HSL := Lib.hid hshl
      rw [hshl] at hsb
      clear hs40 hshl
      replace hM := (hM.take (x := ownE 9 1 As ks cs (svs sh)) (by repeat (first | (with_reducible exact Take.head) | apply Take.tail))).freeze
      go_upto_block 4 with (first | (have hM0 := hM; clear hM; refine wpList_plain rfl fun K hK => ws_slice_own hM0 (n := 0) rfl 38 32 (.agg (bvs z32).toArray) [] Try.underlying36 (by kernel_rfl) rfl (by simp [Value.cells, iv, sv, bv]) (by rfl) (by decide) (by decide) (cs := idvs []) (by rfl) (fun g4 w hM => hK _ _ ?_); clear hM0 hK K))
      go_cut [11, 17] (fun all some_ wx => ∃ (k : Nat) (A A' : Option Addr) (c c' : Nat) (xs : List (List UInt8)), k ≤ 6 ∧ xs.length = k ∧ (∀ x ∈ xs, x.length = 32) ∧ some_ = .slice A k c ∧ all = .slice A' k c' ∧ Star (ownE 38 32 A k c (idvs xs) :: ownE 9 1 A' k c' (svs xs) :: rowE 1 As ks (svs sh) :: rowE 1 Af kf (ivs few) :: F) wx)
      case first =>
        go_wp2_with fail
        go_loopw [11, 17, 18] (fun all some_ i wr => ∃ (k : Nat) (A A' : Option Addr) (c c' : Nat) (xs : List (List UInt8)), k ≤ 6 ∧ k ≤ n3 ∧ xs.length = k ∧ (∀ x ∈ xs, x.length = 32) ∧ i = .int .i64 k ∧ some_ = .slice A k c ∧ all = .slice A' k c' ∧ Star (ownE 38 32 A k c (idvs xs) :: ownE 9 1 A' k c' (svs xs) :: rowE 1 As ks (svs sh) :: rowE 1 Af kf (ivs few) :: F) wr) (fun _ _ i _ => 6 - (intOf i).toNat)
        case atStart => exact ⟨0, _, _, _, _, [], by omega, by omega, rfl, by simp, rfl, rfl, rfl, hM.sel (by repeat (first | (with_reducible exact Sel.refl) | (with_reducible exact Take.head) | (with_reducible apply Take.tail) | (with_reducible apply Sel.cons) | (with_reducible apply Sel.drop)))⟩
        case round =>
          clear hM
          obtain ⟨k, A, A', c, c', xs, hk, hkn, hxs, hx32, rfl, rfl, rfl, hM⟩ := hrel
          have HS := Lib.hid hxs
          have HX := Lib.hid hx32
          clear hxs hx32
          by_cases hgo : k < n3 ∧ k < 6
          · obtain ⟨hlt, hk6⟩ := hgo
            obtain ⟨ad, d, rfl, hv, hg, ht⟩ := hM.elemS (A := A3) (n := n3) (l := ids) (by repeat (first | assumption | (with_reducible exact List.mem_cons_self) | apply List.mem_cons_of_mem)) hlt
            clear ht hg
            obtain ⟨e, he⟩ : ∃ e, e = idOf d := ⟨_, rfl⟩
            have he32 : e.length = 32 := by rw [he]; exact idOf_len d
            have HE := Lib.hid he
            clear he
            go_wp2_with (first | (refine wpList_plain rfl fun K hK => ws_rowload rfl rfl (by first | (apply Star.row hM; (repeat (first | assumption | (with_reducible exact List.mem_cons_self) | apply List.mem_cons_of_mem)); done) | (apply Star.own hM; (repeat (first | assumption | (with_reducible exact List.mem_cons_self) | apply List.mem_cons_of_mem)); done) | (apply Star.arr hM; (focus ((repeat (first | assumption | (with_reducible exact List.mem_cons_self) | apply List.mem_cons_of_mem)); done)); assumption)) (by assumption) (by kernel_rfl) (hK _ _ ?_); clear hK K) | (go_at_call 24; have hM0 := hM; clear hM; (with_reducible refine (star0 (HE.out ▸ name_any d _) hM0).mono ?_); clear hM0; rintro _ w ⟨rfl, hM⟩) | (have hM0 := hM; clear hM; refine wpList_plain rfl fun K hK => ws_alloc hM0 (t := 38) rfl (bvs z32).toArray info_id (fun g5 w hM => hK _ _ ?_); clear hM0 hK K) | (have hM0 := hM; clear hM; refine wpList_plain rfl fun K hK => ws_store hM0 rfl rfl rfl (by repeat (first | (with_reducible exact Take.head) | apply Take.tail)) (n := 32) (by simp [bvs_len, he32]) (by simp [bvs_len, z32_len]) (by kernel_rfl) (by simpa using bvs_oneCell e) (fun w hM => hK _ _ ?_); clear hM0 hK K) | (refine wpList_plain rfl fun K hK => ws_load hM rfl rfl (by repeat (first | assumption | (with_reducible exact List.mem_cons_self) | apply List.mem_cons_of_mem)) (n := 32) (by simp [bvs_len, he32]) (by kernel_rfl) (hK _ _ ?_); clear hK K) | (have hM0 := hM; clear hM; refine wpList_plain rfl fun K hK => ws_slice_row hM0 (n := 1) rfl 38 32 (.agg (bvs z32).toArray) [idv e] Try.underlying36 (by kernel_rfl) rfl (by simp [Value.cells, iv, sv, bv, idv, bvs_len, he32]) (by rfl) (by decide) (cs := idvs [e]) (by rfl) (fun g w hM => hK _ _ ?_); clear hM0 hK K) | (have hM0 := hM; clear hM; refine wpList_plain rfl fun K hK => ws_append hM0 rfl rfl rfl 38 ((.agg (bvs z32).toArray)) 32 32 Try.underlying36 (by kernel_rfl) (by simp [Value.cells, bvs_len, z32_len]) (by decide) (by repeat (first | (with_reducible exact Take.head) | apply Take.tail)) (by first | (apply Star.row hM0; (repeat (first | assumption | (with_reducible exact List.mem_cons_self) | apply List.mem_cons_of_mem)); done) | (apply Star.own hM0; (repeat (first | assumption | (with_reducible exact List.mem_cons_self) | apply List.mem_cons_of_mem)); done) | (apply Star.arr hM0; (focus ((repeat (first | assumption | (with_reducible exact List.mem_cons_self) | apply List.mem_cons_of_mem)); done)); assumption)) (idvs_one [e]) ((by omega)) (fun A1 c1 w hM hnil => hK _ _ ?_); clear hM0 hK K) | (refine wpList_plain rfl fun K hK => ws_string (l := e) rfl 5 Try.underlying40 Try.underlying9 Try.underlying5 rfl (by first | (apply Star.row hM; (repeat (first | assumption | (with_reducible exact List.mem_cons_self) | apply List.mem_cons_of_mem)); done) | (apply Star.own hM; (repeat (first | assumption | (with_reducible exact List.mem_cons_self) | apply List.mem_cons_of_mem)); done) | (apply Star.arr hM; (focus ((repeat (first | assumption | (with_reducible exact List.mem_cons_self) | apply List.mem_cons_of_mem)); done)); assumption)) (hK _ _ ?_); clear hK K) | (have hM0 := hM; clear hM; refine wpList_plain rfl fun K hK => ws_slice_row hM0 (n := 1) rfl 9 1 (.string ByteArray.empty) [sv e] Try.underlying34 (by kernel_rfl) rfl (by simp [Value.cells, iv, sv, bv]) (by rfl) (by decide) (cs := svs [e]) (by rfl) (fun g w hM => hK _ _ ?_); clear hM0 hK K) | (have hM0 := hM; clear hM; refine wpList_plain rfl fun K hK => ws_append hM0 rfl rfl rfl 9 ((.string ByteArray.empty)) 1 16 Try.underlying34 (by kernel_rfl) (by rfl) (by decide) (by repeat (first | (with_reducible exact Take.head) | apply Take.tail)) (by first | (apply Star.row hM0; (repeat (first | assumption | (with_reducible exact List.mem_cons_self) | apply List.mem_cons_of_mem)); done) | (apply Star.own hM0; (repeat (first | assumption | (with_reducible exact List.mem_cons_self) | apply List.mem_cons_of_mem)); done) | (apply Star.arr hM0; (focus ((repeat (first | assumption | (with_reducible exact List.mem_cons_self) | apply List.mem_cons_of_mem)); done)); assumption)) (svs_one [e]) ((by omega)) (fun A2 c2 w hM hnil => hK _ _ ?_); clear hM0 hK K))
            go_roundw
            case rel => exact ⟨k + 1, A1, A2, c1, c2, xs ++ [e], by omega, by omega, by simp [HS.out], by intro x hx; rcases List.mem_append.1 hx with h | h; exact HX.out x h; rw [List.mem_singleton.1 h]; exact he32, by go_num, rfl, rfl, by rw [svs_app, idvs_app]; exact hM.sel (by repeat (first | (with_reducible exact Sel.refl) | (with_reducible exact Take.head) | (with_reducible apply Take.tail) | (with_reducible apply Sel.cons) | (with_reducible apply Sel.drop)))⟩
            case measure => simp [intOf]; omega
          · go_wp2_with fail
            all_goals
              go_meet
              exact ⟨k, A, A', c, c', xs, by omega, HS.out, HX.out, rfl, rfl, hM⟩
      case rest =>
        clear hM
        obtain ⟨kx, Ax, Ay, cx, cy, xs, hkx, hxl2, hx32, rfl, rfl, hM⟩ := hcut
        have HX := Lib.hid hx32
        have HXL := Lib.hid hxl2
        clear hx32 hxl2
        replace hM := (hM.take (x := ownE 38 32 Ax kx cx (idvs xs)) (by repeat (first | (with_reducible exact Take.head) | apply Take.tail))).freeze
        replace hM := (hM.take (x := ownE 9 1 Ay kx cy (svs xs)) (by repeat (first | (with_reducible exact Take.head) | apply Take.tail))).freeze
        go_wp2_with (first | (go_at_call 17; have hM0 := hM; clear hM; (with_reducible refine (star0 (awake04 _) hM0).mono ?_); clear hM0; rintro _ w ⟨rfl, hM⟩) | (go_at_call 21; have hM0 := hM; clear hM; (with_reducible refine (star0 (encNum_any m hm _) hM0).mono ?_); clear hM0; rintro _ w ⟨rfl, hM⟩) | (go_at_call 22; have hM0 := hM; clear hM; (with_reducible refine (rNum_star m hm _ hM0).mono ?_); clear hM0; rintro _ w ⟨rfl, hM⟩) | (go_at_call 25; have hM0 := hM; clear hM; (with_reducible refine (nums_star few Af kf cf hxl (by omega) _ hM0 (by repeat (first | assumption | (with_reducible exact List.mem_cons_self) | apply List.mem_cons_of_mem))).mono ?_); clear hM0; rintro _ w ⟨rfl, hM⟩) | (go_at_call 26; have hM0 := hM; clear hM; (with_reducible refine (star0 (encStrs_any sh As ks cs (fun x hx => Nat.le_trans (HS4.out x hx) (by omega)) (by omega) _ (hM0.row (by repeat (first | assumption | (with_reducible exact List.mem_cons_self) | apply List.mem_cons_of_mem)))) hM0).mono ?_); clear hM0; rintro _ w ⟨rfl, hM⟩) | (go_at_call 27; have hM0 := hM; clear hM; (with_reducible refine (ids_star xs Ax kx cx HX.out (by omega) _ hM0 (by repeat (first | assumption | (with_reducible exact List.mem_cons_self) | apply List.mem_cons_of_mem))).mono ?_); clear hM0; rintro _ w ⟨rfl, hM⟩) | (go_at_call 28; have hM0 := hM; clear hM; (with_reducible refine (rIDs_star xs Ay kx cy HX.out (by omega) _ hM0 (by repeat (first | assumption | (with_reducible exact List.mem_cons_self) | apply List.mem_cons_of_mem))).mono ?_); clear hM0; rintro _ w ⟨rfl, hM⟩))
        go_ret
        exact ⟨rfl, hM.sel (by repeat (first | (with_reducible exact Sel.refl) | (with_reducible exact Take.head) | (with_reducible apply Take.tail) | (with_reducible apply Sel.cons) | (with_reducible apply Sel.drop)))⟩
end Go.Proofs.Ytbnencchfgnbjaa
