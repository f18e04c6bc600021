/- The walks of bale.Nums, bale.IDs and the reference's Num, Str, IDs. No condition but lengths. -/
import Derived.Test.YtbnencchfgnbjaaLists
import Derived.Test.YtbnencchfgnbjaaBaleA
import Derived.Test.YtbnencchfgnbjaaId
set_option linter.unusedSimpArgs false
set_option linter.unusedVariables false
namespace Go.Proofs.Ytbnencchfgnbjaa
open Go.RowKit
attribute [local go_sem] extract_mid extract_drop bget bsize wrap64_u8 i64_u8 u64_u8 bappend
def encNums (l : List Int) : List UInt8 := l.flatMap fun n => encNum (max n 0).toNat
theorem encNums_snoc (l : List Int) (n : Int) : encNums (l ++ [n]) = encNums l ++ encNum (max n 0).toNat := by simp [encNums]
theorem encNums_len (l : List Int) : (encNums l).length ≤ 9 * l.length := by
  induction l with
  | nil => simp [encNums]
  | cons a l ih =>
    have := encNum_len (max a 0).toNat
    simp only [encNums, List.flatMap_cons, List.length_append, List.length_cons] at ih ⊢
    omega
theorem encNum0 (w : World) : Calls Try.prog 21 #[.int .u64 0] w fun r w' => r = .returned (.string ⟨(encNum 0).toArray⟩) ∧ Ch [] w w' := encNum_any 0 (by omega) w
theorem nums_star {F : List SProp} (l : List Int) (A : Option Addr) (n c : Nat) (hl : ∀ x ∈ l, x ≤ 9223372036854775807) (hn : n ≤ 1000000000) (w : World) (hM : Star F w) (hF : rowE 1 A n (ivs l) ∈ F) :
    Calls Try.prog 25 #[.slice A n c] w fun r w' => r = .returned (.string ⟨(encNums l).toArray⟩) ∧ Star F w' := by
  have HL := Lib.hid (ivs_row (hM.row hF))
  go_enter Try.func25, Try.ntmps25
  go_wp2
  go_loopw [3, 8] (fun v i wr => ∃ k : Nat, k ≤ n ∧ i = .int .i64 k ∧ v = .string ⟨(encNums (l.take k)).toArray⟩ ∧ Star F wr) (fun _ i _ => n - (intOf i).toNat)
  case atStart => exact ⟨0, Nat.zero_le _, rfl, rfl, hM⟩
  case round =>
    clear hM
    obtain ⟨k, hk, rfl, rfl, hM⟩ := hrel
    by_cases hlt : k < n
    · obtain ⟨ad, d, rfl, hc, hg, ht⟩ := (hM.row hF).elem hlt
      have hd := hl d (List.mem_of_getElem? hg)
      have hb := encNums_len (l.take k)
      have hb2 := List.length_take_le k l
      have hq := encNum_len (max d 0).toNat
      have HT := Lib.hid ht
      replace hc : wr.cell? (ad.add k) = some (.int .i64 d) := hc
      clear ht hg hl
      have hdm : d < 0 ∧ (max d 0).toNat = 0 ∨ ∃ m : Nat, d = m := by
        by_cases h : d < 0
        · exact .inl ⟨h, by omega⟩
        · exact .inr ⟨d.toNat, by omega⟩
      rcases hdm with ⟨hneg, h0⟩ | ⟨m, rfl⟩
      · have H0 := Lib.hid h0
        clear h0
        have hq0 := encNum_len 0
        go_wp2_with (go_at_call 21; have hM0 := hM; clear hM; (first | (with_reducible refine (star0 (encNum0 _) hM0).mono ?_) | fail); clear hM0; rintro _ w ⟨rfl, hM⟩)
        go_roundw
        case rel => exact ⟨k + 1, by omega, by go_num, by rw [HT.out, encNums_snoc, H0.out], hM⟩
        case measure => simp [intOf]; omega
      · have hq0 := encNum_len m
        go_wp2_with (go_at_call 21; have hM0 := hM; clear hM; (first | (with_reducible refine (star0 (encNum_any m (by omega) _) hM0).mono ?_) | fail); clear hM0; rintro _ w ⟨rfl, hM⟩)
        go_roundw
        case rel => exact ⟨k + 1, by omega, by go_num, by rw [HT.out, encNums_snoc, show (max (m : Int) 0).toNat = m by omega], hM⟩
        case measure => simp [intOf]; omega
    · go_wp2
      go_ret
      exact ⟨ret_str (by rw [List.take_of_length_le (by rw [HL.out]; omega)]), hM⟩
theorem info_int : (Try.prog.info? 3).map (fun i => (i.zero, i.size, i.bytes)) = some (some (.int .i64 0), 1, 8) := by kernel_rfl
def encIDs (l : List (List UInt8)) : List UInt8 := encNum l.length ++ cat l
set_option maxRecDepth 100000 in
theorem ids_star {F : List SProp} (l : List (List UInt8)) (A : Option Addr) (n c : Nat) (hl : ∀ x ∈ l, x.length = 32) (hn : n ≤ 1000000000) (w : World) (hM : Star F w) (hF : rowE 32 A n (idvs l) ∈ F) :
    Calls Try.prog 27 #[.slice A n c] w fun r w' => r = .returned (.string ⟨(encIDs l).toArray⟩) ∧ Star F w' := by
  have hlen := idvs_row (hM.row hF) hl
  have HL := Lib.hid hlen
  clear hlen
  have HE : Hid (encNums [(n : Int)] = encNum n) := by show _ = _; simp [encNums]
  go_enter Try.func27, Try.ntmps27
  go_wp2_with (first | (first | (have hM0 := hM; clear hM; refine BigFrame.wpList_want (by rfl) fun K hK => ws_slice_row hM0 (n := 1) rfl 3 1 (.int .i64 0) [iv n] Try.underlying33 (by kernel_rfl) rfl (by simp [Value.cells, iv, sv, bv]) (by rfl) (by decide) (cs := ivs [(n : Int)]) (by rfl) (fun g w hM => hK _ _ ?_); clear hM0 hK K) | fail) | (go_at_call 25; have hM0 := hM; clear hM; (first | (with_reducible refine (nums_star [(n : Int)] _ 1 1 (by intro x hx; rw [List.mem_singleton.1 hx]; omega) (by omega) _ hM0 (by (repeat (first | assumption | (with_reducible exact List.mem_cons_self) | apply List.mem_cons_of_mem)); first | done | fail)).mono ?_) | fail); clear hM0; rintro _ w ⟨rfl, hM⟩))
  rw [HE.out]
  replace hM := hM.sub (R := F) (by repeat (first | exact List.Sublist.refl _ | apply List.Sublist.cons))
  go_loopw [3, 12] (fun v i wr => ∃ k : Nat, k ≤ n ∧ i = .int .i64 k ∧ v = .string ⟨(encNum n ++ cat (l.take k)).toArray⟩ ∧ Star F wr) (fun _ i _ => n - (intOf i).toNat)
  case atStart => exact ⟨0, Nat.zero_le _, rfl, by simp [cat], hM⟩
  case round =>
    clear hM
    obtain ⟨k, hk, rfl, rfl, hM⟩ := hrel
    by_cases hlt : k < n
    · obtain ⟨ad, d, rfl, hc, hg, ht⟩ := Rd.elems (f := bvs) (hM.row hF) (fun x hx => by rw [bvs_len, hl x hx]) (by omega) hlt
      have hd := hl d (List.mem_of_getElem? hg)
      have hfl := cat_take_le 32 l (fun x hx => by rw [hl x hx]; omega) k
      rw [HL.out] at hfl
      have hq := encNum_len n
      have HT := Lib.hid ht
      clear ht hg hl
      go_wp2_with (first | (refine wpList_plain rfl fun K hK => ws_load_at rfl rfl (bvs d) hc (n := 32) (by rw [bvs_len, hd]) (by kernel_rfl) (hK _ _ ?_); clear hK K) | (first | (have hM0 := hM; clear hM; refine BigFrame.wpList_want (by rfl) fun K hK => ws_alloc hM0 (t := 38) rfl (bvs z32).toArray info_id (fun g5 w hM => hK _ _ ?_); clear hM0 hK K) | fail) | (first | (have hM0 := hM; clear hM; refine BigFrame.wpList_want (by rfl) fun K hK => ws_store hM0 rfl rfl rfl (by (repeat (first | (with_reducible exact Take.head) | apply Take.tail)); first | done | fail) (n := 32) (by simp [bvs_len, hd]) (by simp [bvs_len, z32_len]) (by kernel_rfl) (by simpa using bvs_oneCell d) (fun w hM => hK _ _ ?_); clear hM0 hK K) | fail) | (first | (refine BigFrame.wpList_want (by rfl) fun K hK => ws_string (l := d) rfl 5 Try.underlying40 Try.underlying9 Try.underlying5 rfl (by first | (apply Star.row hM; (repeat (first | assumption | (with_reducible exact List.mem_cons_self) | apply List.mem_cons_of_mem)); done) | (apply Star.own hM; (repeat (first | assumption | (with_reducible exact List.mem_cons_self) | apply List.mem_cons_of_mem)); done) | (apply Star.arr hM; (focus ((repeat (first | assumption | (with_reducible exact List.mem_cons_self) | apply List.mem_cons_of_mem)); done)); assumption)) (hK _ _ ?_); clear hK K) | fail))
      go_roundw
      case rel => exact ⟨k + 1, by omega, by go_num, by rw [HT.out, cat_snoc], hM.sub (by repeat (first | exact List.Sublist.refl _ | apply List.Sublist.cons))⟩
      case measure => simp [intOf]; omega
    · go_wp2
      go_ret
      exact ⟨ret_str (by rw [List.take_of_length_le (by rw [HL.out]; omega), encIDs, HL.out]), hM⟩
attribute [local go_sem] u8_u8
theorem info_u8z : (Try.prog.info? 5).map (fun i => (i.zero, i.size)) = some (some (.int .u8 0), 1) := by kernel_rfl
set_option maxRecDepth 100000 in
theorem rNum_star {F : List SProp} (n : Nat) (hn : n ≤ 18446744073709551615) (w : World) (hM : Star F w) :
    Calls Try.prog 22 #[.int .u64 n] w fun r w' => r = .returned (.string ⟨(encNum n).toArray⟩) ∧ Star F w' := by
  go_enter Try.func22, Try.ntmps22
  go_wp2
  go_loopw [0, 3, 4] (fun nv s i wr => ∃ (m k : Nat) (ds : List UInt8), nv = .int .u64 m ∧ i = .int .i64 k ∧ s = .string ⟨ds.toArray⟩ ∧ ds.length = k ∧ k ≤ 8 ∧ m < 256 ^ (8 - k) ∧ Hid (digF (8 - k) m ++ ds = digF 8 n) ∧ Star F wr)
    (fun nv _ _ _ => (intOf nv).toNat)
  case atStart => exact ⟨n, 0, [], rfl, rfl, rfl, rfl, by omega, by simpa using (by omega : n < 256 ^ 8), by show _ = _; simp, hM⟩
  case round =>
    clear hM
    obtain ⟨m, k, ds, rfl, rfl, rfl, hlen, hk, hm, hd, hM⟩ := hrel
    have hle : (256 : Nat) ^ (8 - k) ≤ 256 ^ 8 := Nat.pow_le_pow_right (by omega) (by omega)
    have hm64 : m ≤ 18446744073709551615 := by omega
    clear hle
    by_cases hgo : k < 8 ∧ 0 < m
    · obtain ⟨hk8, hm0⟩ := hgo
      obtain ⟨d, hdd⟩ : ∃ d : UInt8, d = UInt8.ofNat m := ⟨_, rfl⟩
      have hw8 : (m : Int) % 256 = (d.toNat : Int) := by rw [hdd]; simp
      have HD := Lib.hid hdd
      have HL := Lib.hid hlen
      have hdl : ds.length ≤ 8 := by omega
      clear hdd hlen
      go_wp2_with (first | (first | (have hM0 := hM; clear hM; refine BigFrame.wpList_want (by rfl) fun K hK => ws_slice_row hM0 (n := 1) rfl 5 1 (.int .u8 0) [bv d] Try.underlying40 (by kernel_rfl) rfl (by simp [Value.cells, iv, sv, bv]) (by rfl) (by decide) (cs := bvs [d]) (by rfl) (fun g w hM => hK _ _ ?_); clear hM0 hK K) | fail) | (first | (refine BigFrame.wpList_want (by rfl) fun K hK => ws_string (l := [d]) rfl 5 Try.underlying40 Try.underlying9 Try.underlying5 rfl (by first | (apply Star.row hM; (repeat (first | assumption | (with_reducible exact List.mem_cons_self) | apply List.mem_cons_of_mem)); done) | (apply Star.own hM; (repeat (first | assumption | (with_reducible exact List.mem_cons_self) | apply List.mem_cons_of_mem)); done) | (apply Star.arr hM; (focus ((repeat (first | assumption | (with_reducible exact List.mem_cons_self) | apply List.mem_cons_of_mem)); done)); assumption)) (hK _ _ ?_); clear hK K) | fail))
      have e1 : 8 - k = (8 - (k + 1)) + 1 := by omega
      have hd1 : digF (8 - (k + 1)) (m / 256) ++ (d :: ds) = digF 8 n := by
        rw [← hd.out, e1, digF_pos _ _ (by omega), HD.out]
        simp
        apply UInt8.toNat_inj.1
        simp
      have hm1 : m / 256 < 256 ^ (8 - (k + 1)) := by
        rw [e1, Nat.pow_succ] at hm
        omega
      go_roundw
      case rel => exact ⟨m / 256, k + 1, d :: ds, by go_num, by go_num, rfl, by simp [HL.out], by omega, hm1, hd1, hM.sub (by repeat (first | exact List.Sublist.refl _ | apply List.Sublist.cons))⟩
      case measure => simp [intOf]; omega
    · have hds : ds = digF 8 n := by
        rw [← hd.out]
        by_cases hm0 : 0 < m
        · have : 8 - k = 0 := by omega
          rw [this]; rfl
        · obtain rfl : m = 0 := by omega
          rw [digF_zero]; rfl
      have hgo2 : 8 ≤ k ∨ m = 0 := by omega
      obtain ⟨d, hdd⟩ : ∃ d : UInt8, d = UInt8.ofNat ds.length := ⟨_, rfl⟩
      have hw8 : IntKind.u8.wrap (ds.length : Int) = (d.toNat : Int) := by rw [hdd, u8_wrap]
      have HE : Hid (d :: ds = encNum n) := by show _ = _; rw [hdd, hds]; rfl
      have hdl : ds.length ≤ 8 := by omega
      clear hdd hds hgo hd hm hlen
      rcases hgo2 with h8 | rfl
      · go_wp2_with (first | (first | (have hM0 := hM; clear hM; refine BigFrame.wpList_want (by rfl) fun K hK => ws_slice_row hM0 (n := 1) rfl 5 1 (.int .u8 0) [bv d] Try.underlying40 (by kernel_rfl) rfl (by simp [Value.cells, iv, sv, bv]) (by rfl) (by decide) (cs := bvs [d]) (by rfl) (fun g w hM => hK _ _ ?_); clear hM0 hK K) | fail) | (first | (refine BigFrame.wpList_want (by rfl) fun K hK => ws_string (l := [d]) rfl 5 Try.underlying40 Try.underlying9 Try.underlying5 rfl (by first | (apply Star.row hM; (repeat (first | assumption | (with_reducible exact List.mem_cons_self) | apply List.mem_cons_of_mem)); done) | (apply Star.own hM; (repeat (first | assumption | (with_reducible exact List.mem_cons_self) | apply List.mem_cons_of_mem)); done) | (apply Star.arr hM; (focus ((repeat (first | assumption | (with_reducible exact List.mem_cons_self) | apply List.mem_cons_of_mem)); done)); assumption)) (hK _ _ ?_); clear hK K) | fail))
        all_goals
          go_ret
          exact ⟨ret_str HE.out, hM.sub (by repeat (first | exact List.Sublist.refl _ | apply List.Sublist.cons))⟩
      · go_wp2_with (first | (first | (have hM0 := hM; clear hM; refine BigFrame.wpList_want (by rfl) fun K hK => ws_slice_row hM0 (n := 1) rfl 5 1 (.int .u8 0) [bv d] Try.underlying40 (by kernel_rfl) rfl (by simp [Value.cells, iv, sv, bv]) (by rfl) (by decide) (cs := bvs [d]) (by rfl) (fun g w hM => hK _ _ ?_); clear hM0 hK K) | fail) | (first | (refine BigFrame.wpList_want (by rfl) fun K hK => ws_string (l := [d]) rfl 5 Try.underlying40 Try.underlying9 Try.underlying5 rfl (by first | (apply Star.row hM; (repeat (first | assumption | (with_reducible exact List.mem_cons_self) | apply List.mem_cons_of_mem)); done) | (apply Star.own hM; (repeat (first | assumption | (with_reducible exact List.mem_cons_self) | apply List.mem_cons_of_mem)); done) | (apply Star.arr hM; (focus ((repeat (first | assumption | (with_reducible exact List.mem_cons_self) | apply List.mem_cons_of_mem)); done)); assumption)) (hK _ _ ?_); clear hK K) | fail))
        all_goals
          go_ret
          exact ⟨ret_str HE.out, hM.sub (by repeat (first | exact List.Sublist.refl _ | apply List.Sublist.cons))⟩
theorem rStr_star {F : List SProp} (l : List UInt8) (hl : l.length ≤ 1000000000000) (w : World) (hM : Star F w) :
    Calls Try.prog 23 #[.string ⟨l.toArray⟩] w fun r w' => r = .returned (.string ⟨(encStr l).toArray⟩) ∧ Star F w' := by
  have hq := encNum_len l.length
  go_enter Try.func23, Try.ntmps23
  go_wp2_with (go_at_call 22; have hM0 := hM; clear hM; (first | (with_reducible refine (rNum_star _ (by omega) _ hM0).mono ?_) | fail); clear hM0; rintro _ w ⟨rfl, hM⟩)
  go_ret
  exact ⟨rfl, hM⟩
theorem rIDs_star {F : List SProp} (l : List (List UInt8)) (A : Option Addr) (n c : Nat) (hl : ∀ x ∈ l, x.length = 32) (hn : n ≤ 1000000000) (w : World) (hM : Star F w) (hF : rowE 1 A n (svs l) ∈ F) :
    Calls Try.prog 28 #[.slice A n c] w fun r w' => r = .returned (.string ⟨(encIDs l).toArray⟩) ∧ Star F w' := by
  have hlen := svs_row (hM.row hF)
  have HL := Lib.hid hlen
  clear hlen
  go_enter Try.func28, Try.ntmps28
  go_wp2_with (go_at_call 22; have hM0 := hM; clear hM; (first | (with_reducible refine (rNum_star _ (by omega) _ hM0).mono ?_) | fail); clear hM0; rintro _ w ⟨rfl, hM⟩)
  go_loopw [3, 12] (fun v i wr => ∃ k : Nat, k ≤ n ∧ i = .int .i64 k ∧ v = .string ⟨(encNum n ++ cat (l.take k)).toArray⟩ ∧ Star F wr) (fun _ i _ => n - (intOf i).toNat)
  case atStart => exact ⟨0, Nat.zero_le _, rfl, by simp [cat], hM⟩
  case round =>
    clear hM
    obtain ⟨k, hk, rfl, rfl, hM⟩ := hrel
    by_cases hlt : k < n
    · obtain ⟨ad, d, rfl, hc, hg, ht⟩ := (hM.row hF).elem hlt
      replace hc : wr.cell? (ad.add k) = some (.string ⟨d.toArray⟩) := hc
      have hd := hl d (List.mem_of_getElem? hg)
      have hfl := cat_take_le 32 l (fun x hx => by rw [hl x hx]; omega) k
      rw [HL.out] at hfl
      have hq := encNum_len n
      have HT := Lib.hid ht
      clear ht hg hl
      go_wp2
      go_roundw
      case rel => exact ⟨k + 1, by omega, by go_num, by rw [HT.out, cat_snoc], hM⟩
      case measure => simp [intOf]; omega
    · go_wp2
      go_ret
      exact ⟨ret_str (by rw [List.take_of_length_le (by rw [HL.out]; omega), encIDs, HL.out]), hM⟩
end Go.Proofs.Ytbnencchfgnbjaa
