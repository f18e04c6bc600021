/- The statement WeaveBad, from its walk. No condition but those that each theorem names. -/
import Derived.Test.YtlhedbjjlomniaaW14
set_option linter.unusedSimpArgs false
set_option linter.unusedVariables false
namespace Go.Proofs.Ytlhedbjjlomniaa
open Go.RowKit
attribute [local go_sem] extract_mid extract_drop bget bsize wrap64_u8 i64_u8 u64_u8 bappend
set_option maxRecDepth 100000 in
set_option maxHeartbeats 8000000 in
theorem weaveBad_core {F : List SProp} (x : List UInt8) (hx : x.length ≤ 100) (size : Int) (y : Value) (w : World) (hM : Star F w) :
    Calls Try.prog 11 #[.string ⟨x.toArray⟩, .int .i64 size, y] w fun r w' => r = .returned (.bool true) ∧ Star F w' := by
  obtain ⟨s1, ht1⟩ : ∃ s1 : Int, (if size < 1 then 1 else size) = s1 := ⟨_, rfl⟩
  obtain ⟨sz, ht2⟩ : ∃ sz : Int, (if 32768 < s1 then 32768 else s1) = sz := ⟨_, rfl⟩
  have hsz : 1 ≤ sz ∧ sz ≤ 32768 := by subst ht2 ht1; repeat' split
                                       all_goals omega
  have T := txt_small (x := x) (by omega)
  have hidl := onm_len 2 x
  obtain ⟨id, hid⟩ : ∃ id, onm 2 x = id := ⟨_, rfl⟩
  rw [hid] at hidl
  have HO : Hid (∀ (L : List SProp) (g : Nat) (w : World), Star L w → rowE 1 (some ⟨g, 0, none⟩) 1 (svs [x]) ∈ L → Calls Try.prog 37 #[.int .i64 2, .slice (some ⟨g, 0, none⟩) 1 1] w fun r w' => r = .returned (.agg (bvs id).toArray) ∧ Star L w') := fun L g w hM hx2 => by
    have := T.of 2 L g w hM hx2
    rwa [hid] at this
  have HBLD := Lib.hid (build_pt id hidl sz)
  have HNW : Hid (∀ (L : List SProp) (w : World), Star L w → Calls Try.prog 40 #[.agg (pcs (id, sz)).toArray] w fun r w' => ∃ b A c, WvH b none none [] ∧ r = .returned (.pointer (some ⟨b, 0, none⟩)) ∧ Star (wvE b A 1 c none none 0 0 0 :: tailE 135 34 A 1 c (tvs [((id, sz), -1)]) :: tailE 5 1 none 0 0 (bvs []) :: L) w') := fun L w hM => (wnew_w id hidl sz w hM).mono fun _ _ ⟨b, g, e, h⟩ => ⟨b, some ⟨g, 0, none⟩, 1, ⟨.inl rfl, headA_none, .inr rfl⟩, e, ((h.niltail 5 1).sel (by repeat (first | (with_reducible exact Sel.refl) | (with_reducible exact Take.head) | (with_reducible apply Take.tail) | (with_reducible apply Sel.cons) | (with_reducible apply Sel.drop))) : Star (wvE b (some ⟨g, 0, none⟩) 1 1 none none 0 0 0 :: tailE 135 34 (some ⟨g, 0, none⟩) 1 1 (tvs [((id, sz), -1)]) :: tailE 5 1 none 0 0 [] :: L) _)⟩
  have w0 : Wok 1 ⟨[((id, sz), -1)], [], 0⟩ := ⟨by simp, by simp, by simp, by intro s hs; simp at hs; subst hs; simp only; omega⟩
  have HR := Lib.hid (fun (L : List SProp) (w : World) (hM : Star L w) => rnparse_star x (by omega) w hM)
  have hg := parseN_good x
  have hlv := parseN_lv2 x
  have hgv : giveW ⟨[((id, sz), -1)], [], 0⟩ x = if (parseN x).2 ≠ 0 then (⟨[((id, sz), -1)], [], 0⟩, (parseN x).2) else if sumP (parseN x).1.2 ≠ sz then (⟨[((id, sz), -1)], [], 0⟩, 2) else (⟨((parseN x).1.2.map fun p => (p, (parseN x).1.1 - 1)) ++ [], [], 1⟩, 0) := by
    unfold giveW
    simp only
    rw [show kindB ((id, sz), -1) = 2 from rfl, hid, if_neg (by simp), if_neg (by decide)]
    by_cases h1 : (parseN x).2 ≠ 0
    · rw [if_pos h1, if_pos h1]
    · rw [if_neg h1, if_neg h1]
      by_cases h2 : sumP (parseN x).1.2 ≠ sz
      · rw [if_pos (.inr h2), if_pos h2]
      · rw [if_neg (by rintro (⟨h, _⟩ | h); omega; exact h2 h), if_neg h2]
  unfold RN at HR
  generalize parseN x = Z at HR hg hlv hgv
  obtain ⟨⟨nl, ps⟩, e⟩ := Z
  simp only at HR hg hlv hgv
  have hbd : ∀ p ∈ ps, 0 ≤ p.2 ∧ p.2 ≤ 1000000 := by
    rcases hg with ⟨h, _⟩ | ⟨_, _, _, h⟩
    · injection h with _ h; subst h; intro p hp; cases hp
    · exact fun p hp => by have := h p hp; omega
  obtain ⟨M, hMl⟩ : ∃ M, ps.length = M := ⟨_, rfl⟩
  rw [hMl] at HR hlv
  have HL := Lib.hid hMl
  have HBD := Lib.hid hbd
  have hM8 := hlv.1
  have a1 : decide (100 < (x.length : Int)) = false := by simp; omega
  clear hg hbd hlv hid hidl
  by_cases he : e ≠ 0
  · rw [if_pos he] at hgv
    have HGV : Hid (∀ (b : Nat) (L : List SProp) (w : World) (A : Option Addr) (c : Nat) (q B : Option Addr) (d : Nat), WvH b q B [] → Star (wvE b A 1 c q B 0 d 0 :: tailE 135 34 A 1 c (tvs [((id, sz), -1)]) :: tailE 5 1 B 0 d (bvs []) :: L) w → Calls Try.prog 41 #[.pointer (some ⟨b, 0, none⟩), .string ⟨x.toArray⟩] w fun r w' => ∃ A' c' q' B' d', r = .returned (.int .i64 e) ∧ WvH b q' B' [] ∧ Star (wvE b A' 1 c' q' B' 0 d' 0 :: tailE 135 34 A' 1 c' (tvs [((id, sz), -1)]) :: tailE 5 1 B' 0 d' (bvs []) :: L) w') := give_c T hgv w0 (by omega)
    have c1 : (e != 0) = true := by simpa using he
    have c2 : (e == 0) = false := by simpa using he
    have HOV : Hid (∀ (A : Option Addr) (c : Nat) (q B : Option Addr) (m d : Nat) (g : Int) (b : Nat) (L : List SProp) (w : World), Star L w → wvE b A 1 c q B m d g ∈ L → Calls Try.prog 43 #[.pointer (some ⟨b, 0, none⟩)] w fun r w' => r = .returned (.bool false) ∧ Star L w') := fun A c q B m d g b L w hM h => over_w w hM h
    clear hgv w0 T he
    go_enter Try.func11, Try.ntmps11
    go_wp2_with (first | (go_at_call 39; have hM0 := hM; clear hM; (first | (with_reducible refine (awake10 _ hM0).mono ?_) | fail); clear hM0; rintro _ w ⟨rfl, hM⟩) | (first | ((with_reducible refine at_slice' ?_); (have hM0 := hM; clear hM; refine BigFrame.wpList_want (by rfl) fun K hK => ws_slice_row hM0 (n := 1) rfl 9 1 (.string ByteArray.empty) [sv x] Try.underlying61 (by kernel_rfl) rfl (by simp [Value.cells, iv, sv, bv]) (by rfl) (by decide) (cs := svs [x]) (by rfl) (fun g28 w hM => hK _ _ ?_); clear hM0 hK K)) | fail) | (go_at_call 37; have hM0 := hM; clear hM; (first | (with_reducible refine (HO.out _ g28 _ hM0 (by (repeat (first | assumption | (with_reducible exact mZ) | apply mS)); first | done | fail)).mono ?_) | fail); clear hM0; rintro _ w ⟨rfl, hM⟩) | (refine BigFrame.wpList_want (by rfl) fun K hK => ws_build rfl (.agg (pcs (id, sz)).toArray) (by simp only [List.map_toArray, List.map_cons, List.map_nil]; exact HBLD.out _) (hK _ _ ?_); clear hK K) | (go_at_call 40; have hM0 := hM; clear hM; (first | (with_reducible refine (HNW.out _ _ hM0).mono ?_) | fail); clear hM0; rintro _ w ⟨b, A, c, hh, rfl, hM⟩) | (go_at_call 29; have hM0 := hM; clear hM; (first | (with_reducible refine (HR.out _ _ hM0).mono ?_) | fail); clear hM0; rintro _ w ⟨B3, c3, rfl, hM⟩) | (first | ((with_reducible refine at_alloc' ?_); (have hM0 := hM; clear hM; refine BigFrame.wpList_want (by rfl) fun K hK => ws_alloc hM0 (t := 57) rfl (ndC 0 none 0 0) info_rnd2 (fun g8 w hM => hK _ _ ?_); clear hM0 hK K)) | fail) | (first | ((with_reducible refine at_store' ?_); (have hM0 := hM; clear hM; refine BigFrame.wpList_want (by rfl) fun K hK => ws_store hM0 rfl rfl rfl (by (repeat (first | (with_reducible exact Take.head) | apply Take.tail)); first | done | fail) (n := 2) (by rfl) (by rfl) (by kernel_rfl) (by simp [Value.oneCell']) (fun w hM => hK _ _ ?_); clear hM0 hK K)) | fail) | (go_at_call 41; have hM0 := hM; clear hM; (first | (with_reducible refine (HGV.out _ _ _ _ _ _ _ _ hh (hM0.take3 (by (repeat (first | (with_reducible exact Take.head) | apply Take.tail)); first | done | fail) (by (repeat (first | (with_reducible exact Take.head) | apply Take.tail)); first | done | fail) (by (repeat (first | (with_reducible exact Take.head) | apply Take.tail)); first | done | fail))).mono ?_) | fail); clear hM0; rintro _ w ⟨A2, c2, q2, B2, d2, rfl, hh2, hM⟩) | (first | ((with_reducible refine at_load' ?_); (refine BigFrame.wpList_want (by rfl) fun K hK => ws_load1 hM rfl rfl (by (repeat (first | assumption | (with_reducible exact mZ) | apply mS)); first | done | fail) (by first | rfl | assumption) (by decide +kernel) (hK _ _ ?_); clear hK K)) | fail))
    go_loopw [11, 44] (fun v i wr => ∃ (k : Nat) (s : Int), k ≤ M ∧ i = .int .i64 k ∧ v = .int .i64 s ∧ Hid (s = sumP (ps.take k)) ∧ Star (wvE b A2 1 c2 q2 B2 0 d2 0 :: rowE 2 B3 M (qvs ps) :: F) wr) (fun _ i _ => M - (intOf i).toNat)
    case atStart => exact ⟨0, 0, by omega, rfl, rfl, rfl, hM.sel (by repeat (first | (with_reducible exact Sel.refl) | (with_reducible exact Take.head) | (with_reducible apply Take.tail) | (with_reducible apply Sel.cons) | (with_reducible apply Sel.drop)))⟩
    case round =>
      clear hM
      obtain ⟨k, s, hk, rfl, rfl, HS, hM⟩ := hrel
      by_cases hlt : k < M
      · obtain ⟨ad, ⟨di, z⟩, rfl, hc, hg, ht⟩ := Rd.elems (l := ps) (f := qcs) (hM.row (A := B3) (xs := qvs ps) (by (repeat (first | assumption | (with_reducible exact mZ) | apply mS)); first | done | fail)) (fun x hx => qcs_len x) (by omega) hlt
        have hdm := List.mem_of_getElem? hg
        have hd2 := HBD.out _ hdm
        have hsb := sumP_le 1000000 (ps.take k) fun p hp => HBD.out p (List.mem_of_mem_take hp)
        have hlk : (ps.take k).length ≤ 8 := by rw [List.length_take]; omega
        rw [← HS.out] at hsb
        have HT : Hid (s + z = sumP (ps.take (k + 1))) := by show _ = _; rw [ht, sumP_app, HS.out]; simp [sumP]
        have hs1 : 0 ≤ s := hsb.1
        have hs2 : s ≤ 1000000 * 8 := by have := hsb.2; omega
        simp only at hd2
        clear ht hg hdm hsb hlk
        go_wp2_with (first | ((with_reducible refine at_load' ?_); refine BigFrame.wpList_want (by rfl) fun K hK => ws_load_at rfl rfl [.string ⟨di.toArray⟩, .int .i64 z] hc (n := 2) rfl (by decide +kernel) (hK _ _ ?_); clear hK K) | (first | ((with_reducible refine at_alloc' ?_); (have hM0 := hM; clear hM; refine BigFrame.wpList_want (by rfl) fun K hK => ws_alloc hM0 (t := 69) rfl (qtC [] 0) info_qt (fun g13 w hM => hK _ _ ?_); clear hM0 hK K)) | fail) | (first | ((with_reducible refine at_store' ?_); (have hM0 := hM; clear hM; refine BigFrame.wpList_want (by rfl) fun K hK => ws_store hM0 rfl rfl rfl (by (repeat (first | (with_reducible exact Take.head) | apply Take.tail)); first | done | fail) (n := 2) (by rfl) (by rfl) (by kernel_rfl) (by simp [Value.oneCell']) (fun w hM => hK _ _ ?_); clear hM0 hK K)) | fail) | (first | ((with_reducible refine at_load' ?_); (refine BigFrame.wpList_want (by rfl) fun K hK => ws_load1 hM rfl rfl (by (repeat (first | assumption | (with_reducible exact mZ) | apply mS)); first | done | fail) (by first | rfl | assumption) (by decide +kernel) (hK _ _ ?_); clear hK K)) | fail))
        go_roundw
        case rel => exact ⟨k + 1, s + z, by omega, by go_num, rfl, HT.out, hM.sel (by repeat (first | (with_reducible exact Sel.refl) | (with_reducible exact Take.head) | (with_reducible apply Take.tail) | (with_reducible apply Sel.cons) | (with_reducible apply Sel.drop)))⟩
        case measure => simp [intOf]; omega
      · have hks : s = sumP ps := by rw [HS.out, List.take_of_length_le (by rw [HL.out]; omega)]
        clear hks HS
        go_wp2_with (first | (go_at_call 42; have hM0 := hM; clear hM; (first | (with_reducible refine (got_w _ hM0 (by (repeat (first | assumption | (with_reducible exact mZ) | apply mS)); first | done | fail)).mono ?_) | fail); clear hM0; rintro _ w ⟨rfl, hM⟩) | (go_at_call 43; have hM0 := hM; clear hM; (first | (with_reducible refine (HOV.out _ _ _ _ _ _ _ _ _ _ hM0 (by (repeat (first | assumption | (with_reducible exact mZ) | apply mS)); first | done | fail)).mono ?_) | fail); clear hM0; rintro _ w ⟨rfl, hM⟩))
        go_ret
        exact ⟨rfl, hM.sel (by repeat (first | (with_reducible exact Sel.refl) | (with_reducible exact Take.head) | (with_reducible apply Take.tail) | (with_reducible apply Sel.cons) | (with_reducible apply Sel.drop)))⟩
  · have he0 : e = 0 := Classical.not_not.1 he
    subst he0
    rw [if_neg (by simp)] at hgv
    by_cases hs : sumP ps ≠ sz
    · rw [if_pos hs] at hgv
      have HGV : Hid (∀ (b : Nat) (L : List SProp) (w : World) (A : Option Addr) (c : Nat) (q B : Option Addr) (d : Nat), WvH b q B [] → Star (wvE b A 1 c q B 0 d 0 :: tailE 135 34 A 1 c (tvs [((id, sz), -1)]) :: tailE 5 1 B 0 d (bvs []) :: L) w → Calls Try.prog 41 #[.pointer (some ⟨b, 0, none⟩), .string ⟨x.toArray⟩] w fun r w' => ∃ A' c' q' B' d', r = .returned (.int .i64 2) ∧ WvH b q' B' [] ∧ Star (wvE b A' 1 c' q' B' 0 d' 0 :: tailE 135 34 A' 1 c' (tvs [((id, sz), -1)]) :: tailE 5 1 B' 0 d' (bvs []) :: L) w') := give_c T hgv w0 (by omega)
      have HNS : Hid (sumP ps ≠ sz) := hs
      clear hgv w0 T he hs
      go_enter Try.func11, Try.ntmps11
      go_wp2_with (first | (go_at_call 39; have hM0 := hM; clear hM; (first | (with_reducible refine (awake10 _ hM0).mono ?_) | fail); clear hM0; rintro _ w ⟨rfl, hM⟩) | (first | ((with_reducible refine at_slice' ?_); (have hM0 := hM; clear hM; refine BigFrame.wpList_want (by rfl) fun K hK => ws_slice_row hM0 (n := 1) rfl 9 1 (.string ByteArray.empty) [sv x] Try.underlying61 (by kernel_rfl) rfl (by simp [Value.cells, iv, sv, bv]) (by rfl) (by decide) (cs := svs [x]) (by rfl) (fun g28 w hM => hK _ _ ?_); clear hM0 hK K)) | fail) | (go_at_call 37; have hM0 := hM; clear hM; (first | (with_reducible refine (HO.out _ g28 _ hM0 (by (repeat (first | assumption | (with_reducible exact mZ) | apply mS)); first | done | fail)).mono ?_) | fail); clear hM0; rintro _ w ⟨rfl, hM⟩) | (refine BigFrame.wpList_want (by rfl) fun K hK => ws_build rfl (.agg (pcs (id, sz)).toArray) (by simp only [List.map_toArray, List.map_cons, List.map_nil]; exact HBLD.out _) (hK _ _ ?_); clear hK K) | (go_at_call 40; have hM0 := hM; clear hM; (first | (with_reducible refine (HNW.out _ _ hM0).mono ?_) | fail); clear hM0; rintro _ w ⟨b, A, c, hh, rfl, hM⟩) | (go_at_call 29; have hM0 := hM; clear hM; (first | (with_reducible refine (HR.out _ _ hM0).mono ?_) | fail); clear hM0; rintro _ w ⟨B3, c3, rfl, hM⟩) | (first | ((with_reducible refine at_alloc' ?_); (have hM0 := hM; clear hM; refine BigFrame.wpList_want (by rfl) fun K hK => ws_alloc hM0 (t := 57) rfl (ndC 0 none 0 0) info_rnd2 (fun g8 w hM => hK _ _ ?_); clear hM0 hK K)) | fail) | (first | ((with_reducible refine at_store' ?_); (have hM0 := hM; clear hM; refine BigFrame.wpList_want (by rfl) fun K hK => ws_store hM0 rfl rfl rfl (by (repeat (first | (with_reducible exact Take.head) | apply Take.tail)); first | done | fail) (n := 2) (by rfl) (by rfl) (by kernel_rfl) (by simp [Value.oneCell']) (fun w hM => hK _ _ ?_); clear hM0 hK K)) | fail) | (go_at_call 41; have hM0 := hM; clear hM; (first | (with_reducible refine (HGV.out _ _ _ _ _ _ _ _ hh (hM0.take3 (by (repeat (first | (with_reducible exact Take.head) | apply Take.tail)); first | done | fail) (by (repeat (first | (with_reducible exact Take.head) | apply Take.tail)); first | done | fail) (by (repeat (first | (with_reducible exact Take.head) | apply Take.tail)); first | done | fail))).mono ?_) | fail); clear hM0; rintro _ w ⟨A2, c2, q2, B2, d2, rfl, hh2, hM⟩) | (first | ((with_reducible refine at_load' ?_); (refine BigFrame.wpList_want (by rfl) fun K hK => ws_load1 hM rfl rfl (by (repeat (first | assumption | (with_reducible exact mZ) | apply mS)); first | done | fail) (by first | rfl | assumption) (by decide +kernel) (hK _ _ ?_); clear hK K)) | fail))
      go_loopw [11, 44] (fun v i wr => ∃ (k : Nat) (s : Int), k ≤ M ∧ i = .int .i64 k ∧ v = .int .i64 s ∧ Hid (s = sumP (ps.take k)) ∧ Star (wvE b A2 1 c2 q2 B2 0 d2 0 :: rowE 2 B3 M (qvs ps) :: F) wr) (fun _ i _ => M - (intOf i).toNat)
      case atStart => exact ⟨0, 0, by omega, rfl, rfl, rfl, hM.sel (by repeat (first | (with_reducible exact Sel.refl) | (with_reducible exact Take.head) | (with_reducible apply Take.tail) | (with_reducible apply Sel.cons) | (with_reducible apply Sel.drop)))⟩
      case round =>
        clear hM
        obtain ⟨k, s, hk, rfl, rfl, HS, hM⟩ := hrel
        by_cases hlt : k < M
        · obtain ⟨ad, ⟨di, z⟩, rfl, hc, hg, ht⟩ := Rd.elems (l := ps) (f := qcs) (hM.row (A := B3) (xs := qvs ps) (by (repeat (first | assumption | (with_reducible exact mZ) | apply mS)); first | done | fail)) (fun x hx => qcs_len x) (by omega) hlt
          have hdm := List.mem_of_getElem? hg
          have hd2 := HBD.out _ hdm
          have hsb := sumP_le 1000000 (ps.take k) fun p hp => HBD.out p (List.mem_of_mem_take hp)
          have hlk : (ps.take k).length ≤ 8 := by rw [List.length_take]; omega
          rw [← HS.out] at hsb
          have HT : Hid (s + z = sumP (ps.take (k + 1))) := by show _ = _; rw [ht, sumP_app, HS.out]; simp [sumP]
          have hs1 : 0 ≤ s := hsb.1
          have hs2 : s ≤ 1000000 * 8 := by have := hsb.2; omega
          simp only at hd2
          clear ht hg hdm hsb hlk
          go_wp2_with (first | ((with_reducible refine at_load' ?_); refine BigFrame.wpList_want (by rfl) fun K hK => ws_load_at rfl rfl [.string ⟨di.toArray⟩, .int .i64 z] hc (n := 2) rfl (by decide +kernel) (hK _ _ ?_); clear hK K) | (first | ((with_reducible refine at_alloc' ?_); (have hM0 := hM; clear hM; refine BigFrame.wpList_want (by rfl) fun K hK => ws_alloc hM0 (t := 69) rfl (qtC [] 0) info_qt (fun g13 w hM => hK _ _ ?_); clear hM0 hK K)) | fail) | (first | ((with_reducible refine at_store' ?_); (have hM0 := hM; clear hM; refine BigFrame.wpList_want (by rfl) fun K hK => ws_store hM0 rfl rfl rfl (by (repeat (first | (with_reducible exact Take.head) | apply Take.tail)); first | done | fail) (n := 2) (by rfl) (by rfl) (by kernel_rfl) (by simp [Value.oneCell']) (fun w hM => hK _ _ ?_); clear hM0 hK K)) | fail) | (first | ((with_reducible refine at_load' ?_); (refine BigFrame.wpList_want (by rfl) fun K hK => ws_load1 hM rfl rfl (by (repeat (first | assumption | (with_reducible exact mZ) | apply mS)); first | done | fail) (by first | rfl | assumption) (by decide +kernel) (hK _ _ ?_); clear hK K)) | fail))
          go_roundw
          case rel => exact ⟨k + 1, s + z, by omega, by go_num, rfl, HT.out, hM.sel (by repeat (first | (with_reducible exact Sel.refl) | (with_reducible exact Take.head) | (with_reducible apply Take.tail) | (with_reducible apply Sel.cons) | (with_reducible apply Sel.drop)))⟩
          case measure => simp [intOf]; omega
        · have hks : s = sumP ps := by rw [HS.out, List.take_of_length_le (by rw [HL.out]; omega)]
          have c3 : (s != sz) = true := by rw [hks]; simpa using HNS.out
          have c4 : ¬ (s = sz) := by rw [hks]; exact HNS.out
          clear hks HS
          go_wp2_with (first | (go_at_call 42; have hM0 := hM; clear hM; (first | (with_reducible refine (got_w _ hM0 (by (repeat (first | assumption | (with_reducible exact mZ) | apply mS)); first | done | fail)).mono ?_) | fail); clear hM0; rintro _ w ⟨rfl, hM⟩))
          go_ret
          exact ⟨rfl, hM.sel (by repeat (first | (with_reducible exact Sel.refl) | (with_reducible exact Take.head) | (with_reducible apply Take.tail) | (with_reducible apply Sel.cons) | (with_reducible apply Sel.drop)))⟩
    · rw [if_neg hs] at hgv
      rw [List.append_nil] at hgv
      obtain ⟨kids, hk⟩ : ∃ kids : List Stp, (ps.map fun p => (p, nl - 1)) = kids := ⟨_, rfl⟩
      have hkl : kids.length = M := by rw [← hk, List.length_map, hMl]
      rw [hk] at hgv
      have HGV : Hid (∀ (b : Nat) (L : List SProp) (w : World) (A : Option Addr) (c : Nat) (q B : Option Addr) (d : Nat), WvH b q B [] → Star (wvE b A 1 c q B 0 d 0 :: tailE 135 34 A 1 c (tvs [((id, sz), -1)]) :: tailE 5 1 B 0 d (bvs []) :: L) w → Calls Try.prog 41 #[.pointer (some ⟨b, 0, none⟩), .string ⟨x.toArray⟩] w fun r w' => ∃ A' c' q' B' d', r = .returned (.int .i64 0) ∧ WvH b q' B' [] ∧ Star (wvE b A' M c' q' B' 0 d' 1 :: tailE 135 34 A' M c' (tvs kids.reverse) :: tailE 5 1 B' 0 d' (bvs []) :: L) w') := fun b L w A c q B d hh hM => by
        have := give_c T hgv w0 (by omega) b L w A c q B d hh hM
        rw [hkl] at this
        exact this
      have HNS : Hid (sumP ps = sz) := Classical.not_not.1 hs
      clear hgv w0 T he hs hkl hk
      go_enter Try.func11, Try.ntmps11
      go_wp2_with (first | (go_at_call 39; have hM0 := hM; clear hM; (first | (with_reducible refine (awake10 _ hM0).mono ?_) | fail); clear hM0; rintro _ w ⟨rfl, hM⟩) | (first | ((with_reducible refine at_slice' ?_); (have hM0 := hM; clear hM; refine BigFrame.wpList_want (by rfl) fun K hK => ws_slice_row hM0 (n := 1) rfl 9 1 (.string ByteArray.empty) [sv x] Try.underlying61 (by kernel_rfl) rfl (by simp [Value.cells, iv, sv, bv]) (by rfl) (by decide) (cs := svs [x]) (by rfl) (fun g28 w hM => hK _ _ ?_); clear hM0 hK K)) | fail) | (go_at_call 37; have hM0 := hM; clear hM; (first | (with_reducible refine (HO.out _ g28 _ hM0 (by (repeat (first | assumption | (with_reducible exact mZ) | apply mS)); first | done | fail)).mono ?_) | fail); clear hM0; rintro _ w ⟨rfl, hM⟩) | (refine BigFrame.wpList_want (by rfl) fun K hK => ws_build rfl (.agg (pcs (id, sz)).toArray) (by simp only [List.map_toArray, List.map_cons, List.map_nil]; exact HBLD.out _) (hK _ _ ?_); clear hK K) | (go_at_call 40; have hM0 := hM; clear hM; (first | (with_reducible refine (HNW.out _ _ hM0).mono ?_) | fail); clear hM0; rintro _ w ⟨b, A, c, hh, rfl, hM⟩) | (go_at_call 29; have hM0 := hM; clear hM; (first | (with_reducible refine (HR.out _ _ hM0).mono ?_) | fail); clear hM0; rintro _ w ⟨B3, c3, rfl, hM⟩) | (first | ((with_reducible refine at_alloc' ?_); (have hM0 := hM; clear hM; refine BigFrame.wpList_want (by rfl) fun K hK => ws_alloc hM0 (t := 57) rfl (ndC 0 none 0 0) info_rnd2 (fun g8 w hM => hK _ _ ?_); clear hM0 hK K)) | fail) | (first | ((with_reducible refine at_store' ?_); (have hM0 := hM; clear hM; refine BigFrame.wpList_want (by rfl) fun K hK => ws_store hM0 rfl rfl rfl (by (repeat (first | (with_reducible exact Take.head) | apply Take.tail)); first | done | fail) (n := 2) (by rfl) (by rfl) (by kernel_rfl) (by simp [Value.oneCell']) (fun w hM => hK _ _ ?_); clear hM0 hK K)) | fail) | (go_at_call 41; have hM0 := hM; clear hM; (first | (with_reducible refine (HGV.out _ _ _ _ _ _ _ _ hh (hM0.take3 (by (repeat (first | (with_reducible exact Take.head) | apply Take.tail)); first | done | fail) (by (repeat (first | (with_reducible exact Take.head) | apply Take.tail)); first | done | fail) (by (repeat (first | (with_reducible exact Take.head) | apply Take.tail)); first | done | fail))).mono ?_) | fail); clear hM0; rintro _ w ⟨A2, c2, q2, B2, d2, rfl, hh2, hM⟩) | (first | ((with_reducible refine at_load' ?_); (refine BigFrame.wpList_want (by rfl) fun K hK => ws_load1 hM rfl rfl (by (repeat (first | assumption | (with_reducible exact mZ) | apply mS)); first | done | fail) (by first | rfl | assumption) (by decide +kernel) (hK _ _ ?_); clear hK K)) | fail))
      go_loopw [11, 44] (fun v i wr => ∃ (k : Nat) (s : Int), k ≤ M ∧ i = .int .i64 k ∧ v = .int .i64 s ∧ Hid (s = sumP (ps.take k)) ∧ Star (wvE b A2 M c2 q2 B2 0 d2 1 :: rowE 2 B3 M (qvs ps) :: F) wr) (fun _ i _ => M - (intOf i).toNat)
      case atStart => exact ⟨0, 0, by omega, rfl, rfl, rfl, hM.sel (by repeat (first | (with_reducible exact Sel.refl) | (with_reducible exact Take.head) | (with_reducible apply Take.tail) | (with_reducible apply Sel.cons) | (with_reducible apply Sel.drop)))⟩
      case round =>
        clear hM
        obtain ⟨k, s, hk, rfl, rfl, HS, hM⟩ := hrel
        by_cases hlt : k < M
        · obtain ⟨ad, ⟨di, z⟩, rfl, hc, hg, ht⟩ := Rd.elems (l := ps) (f := qcs) (hM.row (A := B3) (xs := qvs ps) (by (repeat (first | assumption | (with_reducible exact mZ) | apply mS)); first | done | fail)) (fun x hx => qcs_len x) (by omega) hlt
          have hdm := List.mem_of_getElem? hg
          have hd2 := HBD.out _ hdm
          have hsb := sumP_le 1000000 (ps.take k) fun p hp => HBD.out p (List.mem_of_mem_take hp)
          have hlk : (ps.take k).length ≤ 8 := by rw [List.length_take]; omega
          rw [← HS.out] at hsb
          have HT : Hid (s + z = sumP (ps.take (k + 1))) := by show _ = _; rw [ht, sumP_app, HS.out]; simp [sumP]
          have hs1 : 0 ≤ s := hsb.1
          have hs2 : s ≤ 1000000 * 8 := by have := hsb.2; omega
          simp only at hd2
          clear ht hg hdm hsb hlk
          go_wp2_with (first | ((with_reducible refine at_load' ?_); refine BigFrame.wpList_want (by rfl) fun K hK => ws_load_at rfl rfl [.string ⟨di.toArray⟩, .int .i64 z] hc (n := 2) rfl (by decide +kernel) (hK _ _ ?_); clear hK K) | (first | ((with_reducible refine at_alloc' ?_); (have hM0 := hM; clear hM; refine BigFrame.wpList_want (by rfl) fun K hK => ws_alloc hM0 (t := 69) rfl (qtC [] 0) info_qt (fun g13 w hM => hK _ _ ?_); clear hM0 hK K)) | fail) | (first | ((with_reducible refine at_store' ?_); (have hM0 := hM; clear hM; refine BigFrame.wpList_want (by rfl) fun K hK => ws_store hM0 rfl rfl rfl (by (repeat (first | (with_reducible exact Take.head) | apply Take.tail)); first | done | fail) (n := 2) (by rfl) (by rfl) (by kernel_rfl) (by simp [Value.oneCell']) (fun w hM => hK _ _ ?_); clear hM0 hK K)) | fail) | (first | ((with_reducible refine at_load' ?_); (refine BigFrame.wpList_want (by rfl) fun K hK => ws_load1 hM rfl rfl (by (repeat (first | assumption | (with_reducible exact mZ) | apply mS)); first | done | fail) (by first | rfl | assumption) (by decide +kernel) (hK _ _ ?_); clear hK K)) | fail))
          go_roundw
          case rel => exact ⟨k + 1, s + z, by omega, by go_num, rfl, HT.out, hM.sel (by repeat (first | (with_reducible exact Sel.refl) | (with_reducible exact Take.head) | (with_reducible apply Take.tail) | (with_reducible apply Sel.cons) | (with_reducible apply Sel.drop)))⟩
          case measure => simp [intOf]; omega
        · have hks : s = sumP ps := by rw [HS.out, List.take_of_length_le (by rw [HL.out]; omega)]
          have c3 : s = sz := by rw [hks]; exact HNS.out
          subst c3
          clear hks HS
          go_wp2_with (first | (go_at_call 42; have hM0 := hM; clear hM; (first | (with_reducible refine (got_w _ hM0 (by (repeat (first | assumption | (with_reducible exact mZ) | apply mS)); first | done | fail)).mono ?_) | fail); clear hM0; rintro _ w ⟨rfl, hM⟩))
          go_ret
          exact ⟨rfl, hM.sel (by repeat (first | (with_reducible exact Sel.refl) | (with_reducible exact Take.head) | (with_reducible apply Take.tail) | (with_reducible apply Sel.cons) | (with_reducible apply Sel.drop)))⟩
theorem weaveBad_walk {F : List SProp} (x : List UInt8) (_h : x.length ≤ 9223372036854775807) (size : Int) (_y1 : -9223372036854775808 ≤ size) (_y2 : size ≤ 9223372036854775807) (z : List UInt8) (_h2 : z.length ≤ 9223372036854775807) (w : World) (hM : Star F w) :
    Calls Try.prog 11 #[.string ⟨x.toArray⟩, .int .i64 size, .string ⟨z.toArray⟩] w fun r w' => r = .returned (.bool true) ∧ Star F w' := by
  by_cases h : 100 < x.length
  · have a1 : decide (100 < (x.length : Int)) = true := by simp; omega
    go_enter Try.func11, Try.ntmps11
    go_wp2_with (first | (go_at_call 39; have hM0 := hM; clear hM; (first | (with_reducible refine (awake10 _ hM0).mono ?_) | fail); clear hM0; rintro _ w ⟨rfl, hM⟩))
    go_ret
    exact ⟨rfl, hM.sel (by repeat (first | (with_reducible exact Sel.refl) | (with_reducible exact Take.head) | (with_reducible apply Take.tail) | (with_reducible apply Sel.cons) | (with_reducible apply Sel.drop)))⟩
  · exact weaveBad_core x (by omega) size _ w hM
end Go.Proofs.Ytlhedbjjlomniaa
set_option linter.unusedSimpArgs false
set_option linter.unusedVariables false
namespace Go.Proofs.Ytlhedbjjlomniaa
open Go.RowKit Go.WideShapes Go.ChangeShapes Go.ChangeAt
theorem weaveBad_law (l0 : List UInt8) (w0 : l0.length ≤ 9223372036854775807) (l1 : Int) (w1 : -9223372036854775808 ≤ l1) (y1 : l1 ≤ 9223372036854775807) (l2 : List UInt8) (w2 : l2.length ≤ 9223372036854775807) (W : World)  :
    Calls Try.prog 11 #[.string ⟨l0.toArray⟩, .int .i64 l1, .string ⟨l2.toArray⟩] W fun r w' => r = .returned (.bool true) ∧ Ch [] W w' :=
  (weaveBad_walk l0 w0 l1 w1 y1 l2 w2 W (Star.start W) ).mono fun _ _ ⟨h1, h2⟩ => ⟨h1, h2.old (by (repeat (first | assumption | (with_reducible exact mZ) | apply mS)); first | done | fail)⟩
theorem weaveBad_own : ownKnob Try.prog.godebug = none := by kernel_rfl
set_option maxRecDepth 100000 in
theorem weaveBad_lifted (os : Os) (started : os.Started) (H : Type) (enc : TypeId × Value → H) :
    ReturnsInHanded {} Try.checked os 11 .any (Rows.weaveBadSpec.pre6 enc Try.prog Try.f11 Rows.weaveBadRow.domain false) (Rows.weaveBadSpec.post enc Try.prog Try.f11 false true false false) := by
  refine returnsInHanded_of_change (C := Try.checked) weaveBad_own started (by kernel_rfl) Try.func11
    (ChangeSpec.witness6 (enc := enc) (C := Try.checked) false ⟨#[], #[.string ByteArray.empty, .int .i64 0, .string ByteArray.empty], []⟩ 8 (by kernel_rfl) (by kernel_rfl) (by kernel_rfl) (by kernel_rfl)) ?_
  intro W base args ds gs before hval0 hW hcnd _
  have hval : ∀ (j : Nat) t v, Try.f11.params[j]? = some t → args[j]? = some v → Value.okWide Try.prog W .any base t v := hval0
  have hW' := hW
  obtain ⟨p, q, hA0, hV, rfl, hfz, hnd⟩ := hW
  have hA : DataW.TrodAll enc Try.prog W 0 (fun _ => true) true Try.f11.params.toList args.toList ds p := hA0
  have hA1 := hA
  rw [Try.params11] at hA hval
  obtain ⟨v0, vs0, d0, ds0, p0, q0, hargs, rfl, rfl, h0, r0⟩ := trodAll_cons hA
  obtain ⟨v1, vs1, d1, ds1, p1, q1, rfl, rfl, rfl, h1, r1⟩ := trodAll_cons r0
  obtain ⟨v2, vs2, d2, ds2, p2, q2, rfl, rfl, rfl, h2, r2⟩ := trodAll_cons r1
  obtain ⟨rfl, rfl, rfl⟩ := trodAll_nil r2
  obtain rfl : args = #[v0, v1, v2] := by cases args; simp_all
  obtain ⟨rfl, rfl⟩ := trodVars_none hV
  obtain ⟨l0, rfl, w0⟩ := open_str Try.underlying9 (hval 0 9 v0 rfl rfl) h0
  obtain ⟨l1, rfl, w1, y1⟩ := open_i64 Try.underlying3 (hval 1 3 v1 rfl rfl) h1
  obtain ⟨l2, rfl, w2⟩ := open_str Try.underlying9 (hval 2 9 v2 rfl rfl) h2
  clear hA0 hval0
  refine (weaveBad_law l0 w0 l1 w1 y1 l2 w2 W).mono fun e W' ⟨he, hg⟩ => ?_
  subst he
  have hlt := fun x hx => hW'.lt x hx
  exact ⟨_, rfl, post_of_below hW' (fun _ _ _ => (trodAll_cons_mk (shut_bool Try.underlying4 _) trodAll_mk0))
    (fun sp hsp => args_stay (by kernel_rfl) hg.below sp _ _ _ _ (by kernel_rfl) hA1 (fun x hx => hlt x (List.mem_append.2 (.inl hx))) (fun x hx => hsp x (List.mem_append.2 (.inl hx)))) (fun _ _ => rfl) rfl
    hg.below (ok_one (by kernel_rfl) rfl (okWide_bool_mk Try.underlying4 _))⟩
theorem weaveBad_over : Rows.weaveBadRow.holds Try.pinned (OpenSpec.ofChange Rows.weaveBadSpec) :=
  OpenClaim.holds_of_wide 11 Try.f11 rfl rfl rfl rfl rfl rfl rfl ⟨rfl, rfl, rfl, rfl, rfl⟩ rfl rfl rfl rfl rfl (by kernel_rfl) Try.func11 (by kernel_rfl)
    (of_decide_eq_true (by kernel_rfl)) (by unfold Func.isWrapper; first | (rw [if_pos (by decide +kernel)]; kernel_rfl) | (rw [if_neg (by decide +kernel)]; exact ⟨rfl, rfl⟩))
    (fun os started H enc _ => weaveBad_lifted os started H enc)
/-- THE STATEMENT -/
theorem weaveBad_holds : Rows.WeaveBadSaid := weaveBad_over
end Go.Proofs.Ytlhedbjjlomniaa
