/- What the laws share, part 14 (WvT, WvL, Law, Open). No condition but those that each theorem names. -/
import Derived.Test.YtlhedbjjlomniaaW1
import Derived.Test.YtlhedbjjlomniaaW10
import Derived.Test.YtlhedbjjlomniaaW12
import Derived.Test.YtlhedbjjlomniaaW13
import Derived.Test.YtlhedbjjlomniaaW7
import Derived.Carry
import Derived.ChangeSame
import Derived.Deep.Fields
import Derived.Deep.Grids
import Derived.Deep.Slices
import Derived.Deep.Strs
import Derived.OpenShut
import Derived.ProofKit
import Derived.ShutString
import Derived.WideKeyArgs
set_option linter.unusedSimpArgs false
set_option linter.unusedVariables false
namespace Go.Proofs.Ytlhedbjjlomniaa
open Go.RowKit
attribute [local go_sem] extract_mid extract_drop bget bsize wrap64_u8 i64_u8 u64_u8 bappend
theorem Star.again {L : List SProp} {w : World} {size n : Nat} {A : Option Addr} {xs : List Value} (h : Star L w) (hx : rowE size A n xs ∈ L) : Star (rowE size A n xs :: L) w := h.view hx rfl rfl (fun _ hk => hk) (h.row hx)
def RvS (W : Wv) (e : Int) (F : List SProp) (r : Ending) (w' : World) : Prop := ∃ A' c', r = .returned (.tuple #[.agg (rwC A' W.left.length c' W.out W.got), .int .i64 e]) ∧ W.left.length ≤ c' ∧ c' ≤ 9223372036854775807 ∧ Star (rowE 3 A' W.left.length (usvs W.left) :: F) w'
theorem rgive_w {F : List SProp} {q0 : Nat} {x : List UInt8} (T : RTxt x) {W : Wv} (hW : Wok q0 W) (hq0 : q0 ≤ 1000) {A : Option Addr} {c : Nat} (hc : W.left.length ≤ c) (hcm : c ≤ 9223372036854775807) (w : World) (hM : Star F w) (hx : rowE 3 A W.left.length (usvs W.left) ∈ F) :
    Calls Try.prog 47 #[.agg (rwC A W.left.length c W.out W.got), .string ⟨x.toArray⟩] w (RvS (giveW W x).1 (giveW W x).2 F) := by
  obtain ⟨l, o, g⟩ := W
  obtain ⟨h1, h2, h3, h4⟩ := hW
  simp only at hc hx h1 h2 h3 h4 ⊢
  unfold giveW
  cases l with
  | nil =>
    simp only [List.length_nil] at hx hc ⊢
    exact (rgive_over w (hM.again hx)).mono fun _ _ ⟨e, h⟩ => ⟨A, c, e, hc, hcm, h⟩
  | cons s rest =>
    simp only
    have hs := h4 s List.mem_cons_self
    obtain ⟨⟨id, z⟩, lv⟩ := s
    simp only [List.length_cons] at hx hc h1 hs ⊢
    obtain ⟨ad, rfl, _, _⟩ := (hM.row hx).2 (by omega)
    have hM2 := hM.again hx
    by_cases hne : onm (kindB ((id, z), lv)) x ≠ id
    · rw [if_pos hne]
      exact (rgive_name T id z lv hc hcm rfl (by omega) hne w hM2 List.mem_cons_self).mono fun _ _ ⟨e, h⟩ => ⟨_, c, e, hc, hcm, h⟩
    rw [if_neg hne]
    have heq : onm (kindB ((id, z), lv)) x = id := Classical.not_not.1 hne
    by_cases h0 : lv = 0
    · rw [if_pos h0]
      subst h0
      by_cases hsz : (x.length : Int) ≠ z
      · rw [if_pos hsz]
        exact (rgive_short T id z hc hcm rfl (by omega) heq hsz w hM2 List.mem_cons_self).mono fun _ _ ⟨e, h⟩ => ⟨_, c, e, hc, hcm, h⟩
      · rw [if_neg hsz]
        have hsz' : (x.length : Int) = z := Classical.not_not.1 hsz
        exact (rgive_chunk T id z hc hcm rfl (by omega) heq hsz' (by omega) (by omega) (by omega) (by omega) w hM hx).mono fun _ _ ⟨A', c', e, e1, e2, h⟩ => ⟨A', c', e, e1, e2, h⟩
    · rw [if_neg h0]
      by_cases he : (parseN x).2 ≠ 0
      · rw [if_pos he]
        exact (rgive_err T id z lv hc hcm rfl (by omega) heq h0 he w hM2 List.mem_cons_self).mono fun _ _ ⟨e, h⟩ => ⟨_, c, e, hc, hcm, h⟩
      rw [if_neg he]
      have he' : (parseN x).2 = 0 := Classical.not_not.1 he
      by_cases hnb : (0 < lv ∧ (parseN x).1.1 ≠ lv) ∨ sumP (parseN x).1.2 ≠ z
      · rw [if_pos hnb]
        exact (rgive_wrong T id z lv hc hcm rfl (by omega) heq h0 he' hnb w hM2 List.mem_cons_self).mono fun _ _ ⟨e, h⟩ => ⟨_, c, e, hc, hcm, h⟩
      · rw [if_neg hnb]
        refine (rgive_right T id z lv hc hcm rfl (by omega) heq h0 he' hnb (by omega) (by omega) w hM hx).mono fun _ _ ⟨A', c', e, e1, e2, h⟩ => ⟨A', c', ?_⟩
        simp only [List.length_append]
        exact ⟨e, e1, e2, h⟩
theorem txt_small {x : List UInt8} (h : x.length ≤ 1000000) : Txt x where
  len := by omega
  of kd L g w hM hx := by
    have := oof_star kd [x] (some ⟨g, 0, none⟩) 1 1 (by simpa using h) (by omega) w hM hx
    rwa [cat_one] at this
  parse L w hM := nparse_star x (by omega) w hM
theorem rtxt_small {x : List UInt8} (h : x.length ≤ 1000000) : RTxt x where
  len := by omega
  of kd L w hM := rOof_star kd x (by omega) w hM
  parse L w hM := rnparse_star x (by omega) w hM
theorem txt_big {x : List UInt8} (h : x.length ≤ 140737488351232) : Txt x where
  len := h
  of kd L g w hM hx := by
    have := oof_star_b kd [x] (some ⟨g, 0, none⟩) 1 1 (by rw [cat_one]; omega) (by omega) w hM hx
    rwa [cat_one] at this
  parse L w hM := nparse_star x (by omega) w hM
theorem rtxt_big {x : List UInt8} (h : x.length ≤ 140737488351232) : RTxt x where
  len := h
  of kd L w hM := rOof_star kd x (by omega) w hM
  parse L w hM := rnparse_star x (by omega) w hM
end Go.Proofs.Ytlhedbjjlomniaa
set_option linter.unusedSimpArgs false
set_option linter.unusedVariables false
namespace Go.Proofs.Ytlhedbjjlomniaa
open Go.RowKit
attribute [local go_sem] extract_mid extract_drop bget bsize wrap64_u8 i64_u8 u64_u8 bappend
theorem Star.take3 {x y z : SProp} {L L1 L2 R : List SProp} {w : World} (h : Star L w) (h1 : Take x L L1) (h2 : Take y L1 L2) (h3 : Take z L2 R) : Star (x :: y :: z :: R) w :=
  (h.take h1).perm (List.Perm.cons _ (h2.perm.trans (List.Perm.cons _ h3.perm)))
structure WvH (b : Nat) (q B : Option Addr) (o : List UInt8) : Prop where
  hq : q = none ∨ q = some ⟨b, 1, none⟩
  hH : headA B
  hB : o ≠ [] ∨ B = none
theorem give_c {x : List UInt8} (T : Txt x) {l l' : List Stp} {o o' : List UInt8} {g g' q0 : Nat} {e : Int} (hg : giveW ⟨l, o, g⟩ x = (⟨l', o', g'⟩, e)) (hW : Wok q0 ⟨l, o, g⟩) (hq0 : q0 ≤ 1000) (b : Nat) (L : List SProp) (w : World) (A : Option Addr) (c : Nat) (q B : Option Addr) (d : Nat) (hh : WvH b q B o)
    (hM : Star (wvE b A l.length c q B o.length d g :: tailE 135 34 A l.length c (tvs l.reverse) :: tailE 5 1 B o.length d (bvs o) :: L) w) :
    Calls Try.prog 41 #[.pointer (some ⟨b, 0, none⟩), .string ⟨x.toArray⟩] w fun r w' => ∃ A' c' q' B' d', r = .returned (.int .i64 e) ∧ WvH b q' B' o' ∧
      Star (wvE b A' l'.length c' q' B' o'.length d' g' :: tailE 135 34 A' l'.length c' (tvs l'.reverse) :: tailE 5 1 B' o'.length d' (bvs o') :: L) w' := by
  have hS : WvS b ⟨l, o, g⟩ L w := ⟨A, c, q, B, d, hh.hq, hh.hH, hh.hB, hM⟩
  have h := give_w T hW hq0 w hS
  rw [hg] at h
  exact h.mono fun _ _ ⟨e1, A', c', q', B', d', h1, h2, h3, h4⟩ => ⟨A', c', q', B', d', e1, ⟨h1, h2, h3⟩, h4⟩
set_option maxRecDepth 100000 in
set_option maxHeartbeats 8000000 in
theorem awake10 {F : List SProp} (w : World) (hM : Star F w) : Calls Try.prog 39 #[] w fun r w' => r = .returned (.bool true) ∧ Star F w' := by
  obtain ⟨id1, id2, tx, rid, n1, n2, nr, nne, l1, l2, lr, ltx, hp, hb⟩ := build_abc
  have HB : Hid (∀ (L : List SProp) (g : Nat) (w : World), Star L w → rowE 1 (some ⟨g, 0, none⟩) 2 (svs [[97, 98], [99]]) ∈ L → Calls Try.prog 34 #[.slice (some ⟨g, 0, none⟩) 2 2] w fun r w' => ∃ ad cu, r = .returned (.tuple #[.agg (pcs (rid, 3)).toArray, .slice (some ad) 3 cu, .int .i64 0]) ∧ Star (rowE 34 (some ad) 3 (ovs [(1, id1, [97, 98]), (1, id2, [99]), (2, rid, tx)]) :: L) w') := fun L g w hM hx => by
    refine (build_star [[97, 98], [99]] _ 2 2 (by omega) (by simp) w hM hx).mono fun r w' h => ?_
    unfold PB at h
    rw [hb] at h
    obtain ⟨U, cu, h1, h2⟩ := h
    obtain ⟨ad, rfl, _, _⟩ := (h2.row List.mem_cons_self).2 (by simp)
    exact ⟨ad, cu, h1, h2⟩
  have h32o : ob32 [(1, id1, [97, 98]), (1, id2, [99]), (2, rid, tx)] := by intro o ho; simp at ho; rcases ho with rfl | rfl | rfl <;> assumption
  have HT0 : Hid ((ovs [(1, id1, [97, 98]), (1, id2, [99]), (2, rid, tx)])[33]? = some (.string ⟨([97, 98] : List UInt8).toArray⟩)) := ovs_tx (k := 0) h32o rfl
  have HT2 : Hid ((ovs [(1, id1, [97, 98]), (1, id2, [99]), (2, rid, tx)])[101]? = some (.string ⟨tx.toArray⟩)) := ovs_tx (k := 2) h32o rfl
  generalize ovs [(1, id1, [97, 98]), (1, id2, [99]), (2, rid, tx)] = xs at HB HT0 HT2
  have HNW : Hid (∀ (L : List SProp) (w : World), Star L w → Calls Try.prog 40 #[.agg (pcs (rid, 3)).toArray] w fun r w' => ∃ b A c, r = .returned (.pointer (some ⟨b, 0, none⟩)) ∧ Star (wvE b A 1 c none none 0 0 0 :: tailE 135 34 A 1 c (tvs [((rid, 3), -1)]) :: tailE 5 1 none 0 0 (bvs []) :: L) w') := fun L w hM => (wnew_w rid lr 3 w hM).mono fun _ _ ⟨b, g, e, h⟩ => ⟨b, some ⟨g, 0, none⟩, 1, e, ((h.niltail 5 1).sel (by repeat (first | (with_reducible exact Sel.refl) | (with_reducible exact Take.head) | (with_reducible apply Take.tail) | (with_reducible apply Sel.cons) | (with_reducible apply Sel.drop))) : Star (wvE b (some ⟨g, 0, none⟩) 1 1 none none 0 0 0 :: tailE 135 34 (some ⟨g, 0, none⟩) 1 1 (tvs [((rid, 3), -1)]) :: tailE 5 1 none 0 0 [] :: L) _)⟩
  have T1 : Txt [97, 98] := txt_small (by simp)
  have T2 : Txt [99] := txt_small (by simp)
  have T3 : Txt tx := txt_small (by omega)
  have g1 : giveW ⟨[((rid, 3), -1)], [], 0⟩ [97, 98] = (⟨[((rid, 3), -1)], [], 0⟩, 3) := by
    unfold giveW
    simp only
    rw [show kindB ((rid, 3), -1) = 2 from rfl, if_pos nne]
  have g2 : giveW ⟨[((rid, 3), -1)], [], 0⟩ tx = (⟨[((id1, 2), 0), ((id2, 1), 0)], [], 1⟩, 0) := by
    unfold giveW
    simp only [hp]
    rw [if_neg (by rw [show kindB ((rid, 3), -1) = 2 from rfl, nr]; simp), if_neg (by decide), if_neg (by decide), if_neg (by simp [sumP])]
    rfl
  have g3 : giveW ⟨[((id1, 2), 0), ((id2, 1), 0)], [], 1⟩ [97, 98] = (⟨[((id2, 1), 0)], [97, 98], 2⟩, 0) := by
    unfold giveW
    simp only
    rw [if_neg (by rw [show kindB ((id1, 2), 0) = 1 from rfl, n1]; simp), if_pos trivial, if_neg (by simp)]
    rfl
  have g4 : giveW ⟨[((id2, 1), 0)], [97, 98], 2⟩ [99] = (⟨[], [97, 98, 99], 3⟩, 0) := by
    unfold giveW
    simp only
    rw [if_neg (by rw [show kindB ((id2, 1), 0) = 1 from rfl, n2]; simp), if_pos trivial, if_neg (by simp)]
    rfl
  have w0 : Wok 1 ⟨[((rid, 3), -1)], [], 0⟩ := ⟨by simp, by simp, by simp, by intro s hs; simp at hs; subst hs; simp [lr]⟩
  have w1 : Wok 2 ⟨[((id1, 2), 0), ((id2, 1), 0)], [], 1⟩ := by have := w0.give tx; rwa [g2] at this
  have w2 : Wok 3 ⟨[((id2, 1), 0)], [97, 98], 2⟩ := by have := w1.give [97, 98]; rwa [g3] at this
  have HG1 : Hid (∀ (b : Nat) (L : List SProp) (w : World) (A : Option Addr) (c : Nat) (q B : Option Addr) (d : Nat), WvH b q B [] → Star (wvE b A 1 c q B 0 d 0 :: tailE 135 34 A 1 c (tvs [((rid, 3), -1)]) :: tailE 5 1 B 0 d (bvs []) :: L) w → Calls Try.prog 41 #[.pointer (some ⟨b, 0, none⟩), .string ⟨([97, 98] : List UInt8).toArray⟩] w fun r w' => ∃ A' c' q' B' d', r = .returned (.int .i64 3) ∧ WvH b q' B' [] ∧ Star (wvE b A' 1 c' q' B' 0 d' 0 :: tailE 135 34 A' 1 c' (tvs [((rid, 3), -1)]) :: tailE 5 1 B' 0 d' (bvs []) :: L) w') := give_c T1 g1 w0 (by omega)
  have HG2 : Hid (∀ (b : Nat) (L : List SProp) (w : World) (A : Option Addr) (c : Nat) (q B : Option Addr) (d : Nat), WvH b q B [] → Star (wvE b A 1 c q B 0 d 0 :: tailE 135 34 A 1 c (tvs [((rid, 3), -1)]) :: tailE 5 1 B 0 d (bvs []) :: L) w → Calls Try.prog 41 #[.pointer (some ⟨b, 0, none⟩), .string ⟨(tx : List UInt8).toArray⟩] w fun r w' => ∃ A' c' q' B' d', r = .returned (.int .i64 0) ∧ WvH b q' B' [] ∧ Star (wvE b A' 2 c' q' B' 0 d' 1 :: tailE 135 34 A' 2 c' (tvs [((id2, 1), 0), ((id1, 2), 0)]) :: tailE 5 1 B' 0 d' (bvs []) :: L) w') := give_c T3 g2 w0 (by omega)
  have HG3 : Hid (∀ (b : Nat) (L : List SProp) (w : World) (A : Option Addr) (c : Nat) (q B : Option Addr) (d : Nat), WvH b q B [] → Star (wvE b A 2 c q B 0 d 1 :: tailE 135 34 A 2 c (tvs [((id2, 1), 0), ((id1, 2), 0)]) :: tailE 5 1 B 0 d (bvs []) :: L) w → Calls Try.prog 41 #[.pointer (some ⟨b, 0, none⟩), .string ⟨([97, 98] : List UInt8).toArray⟩] w fun r w' => ∃ A' c' q' B' d', r = .returned (.int .i64 0) ∧ WvH b q' B' [97, 98] ∧ Star (wvE b A' 1 c' q' B' 2 d' 2 :: tailE 135 34 A' 1 c' (tvs [((id2, 1), 0)]) :: tailE 5 1 B' 2 d' (bvs [97, 98]) :: L) w') := give_c T1 g3 w1 (by omega)
  have HG4 : Hid (∀ (b : Nat) (L : List SProp) (w : World) (A : Option Addr) (c : Nat) (q B : Option Addr) (d : Nat), WvH b q B [97, 98] → Star (wvE b A 1 c q B 2 d 2 :: tailE 135 34 A 1 c (tvs [((id2, 1), 0)]) :: tailE 5 1 B 2 d (bvs [97, 98]) :: L) w → Calls Try.prog 41 #[.pointer (some ⟨b, 0, none⟩), .string ⟨([99] : List UInt8).toArray⟩] w fun r w' => ∃ A' c' q' B' d', r = .returned (.int .i64 0) ∧ WvH b q' B' [97, 98, 99] ∧ Star (wvE b A' 0 c' q' B' 3 d' 3 :: tailE 135 34 A' 0 c' (tvs []) :: tailE 5 1 B' 3 d' (bvs [97, 98, 99]) :: L) w') := give_c T2 g4 w2 (by omega)
  have HNX : Hid (∀ (b : Nat) (A : Option Addr) (c : Nat) (q B : Option Addr) (d : Nat) (L : List SProp) (w : World), Star L w → wvE b A 2 c q B 0 d 1 ∈ L → tailE 135 34 A 2 c (tvs [((id2, 1), 0), ((id1, 2), 0)]) ∈ L → Calls Try.prog 83 #[.pointer (some ⟨b, 0, none⟩)] w fun r w' => r = .returned (.tuple #[.agg (wcs 1 (id1, 2)).toArray, .bool true]) ∧ Star L w') := fun b A c q B d L w hM h1 h2 =>
    next_w (n := 2) (l := [((id1, 2), 0), ((id2, 1), 0)]) rfl rfl (by intro s hs; simp at hs; rcases hs with rfl | rfl <;> assumption) (by omega) w hM h1 h2
  have HO1 : Hid (∀ (b : Nat) (A : Option Addr) (c : Nat) (q B : Option Addr) (m d : Nat) (g : Int) (L : List SProp) (w : World), Star L w → wvE b A 1 c q B m d g ∈ L → Calls Try.prog 43 #[.pointer (some ⟨b, 0, none⟩)] w fun r w' => r = .returned (.bool false) ∧ Star L w') := fun b A c q B m d g L w hM h => over_w w hM h
  have HO0 : Hid (∀ (b : Nat) (A : Option Addr) (c : Nat) (q B : Option Addr) (m d : Nat) (g : Int) (L : List SProp) (w : World), Star L w → wvE b A 0 c q B m d g ∈ L → Calls Try.prog 43 #[.pointer (some ⟨b, 0, none⟩)] w fun r w' => r = .returned (.bool true) ∧ Star L w') := fun b A c q B m d g L w hM h => over_w w hM h
  have HPS : Hid ((pcs (rid, 3)).toArray.size = 33) := pcs_sz lr
  have HPS0 : Hid ((pcs (z32, 0)).toArray.size = 33) := pcs_sz z32_32
  have HWS : Hid ((wcs 1 (id1, 2)).toArray.size = 34) := wcs_sz l1
  have HWZ : Hid ((wcs 0 (z32, 0)).toArray.size = 34) := wcs_sz (p := (z32, 0)) z32_len
  have HWK : Hid ((wcs 1 (id1, 2)).toArray[0]? = some (.int .i64 1)) := wcs_0 _ _
  have HW33 : Hid ((wcs 1 (id1, 2)).toArray[33]? = some (.int .i64 2)) := wcs_33 1 (p := (id1, 2)) l1
  clear n1 n2 nr nne l1 l2 lr ltx hp hb h32o T1 T2 T3 g1 g2 g3 g4 w0 w1 w2
  go_enter Try.func39, Try.ntmps39
  go_wp2_with (first | (first | ((with_reducible refine at_slice' ?_); (have hM0 := hM; clear hM; refine BigFrame.wpList_want (by rfl) fun K hK => ws_slice_row hM0 (n := 2) rfl 9 1 (.string ByteArray.empty) [sv [97, 98], sv [99]] Try.underlying61 (by kernel_rfl) rfl (by simp [Value.cells, iv, sv, bv]) (by rfl) (by decide) (cs := svs [[97, 98], [99]]) (by rfl) (fun g10 w hM => hK _ _ ?_); clear hM0 hK K)) | fail) | (go_at_call 34; have hM0 := hM; clear hM; (first | (with_reducible refine (HB.out _ g10 _ hM0 (by (repeat (first | assumption | (with_reducible exact mZ) | apply mS)); first | done | fail)).mono ?_) | fail); clear hM0; rintro _ w ⟨ad, cu, rfl, hM⟩) | (first | ((with_reducible refine at_alloc' ?_); (have hM0 := hM; clear hM; refine BigFrame.wpList_want (by rfl) fun K hK => ws_alloc hM0 (t := 64) rfl (pcs (z32, 0)).toArray info_pt (fun g1 w hM => hK _ _ ?_); clear hM0 hK K)) | fail) | (first | ((with_reducible refine at_store' ?_); (have hM0 := hM; clear hM; refine BigFrame.wpList_want (by rfl) fun K hK => ws_store hM0 rfl rfl rfl (by (repeat (first | (with_reducible exact Take.head) | apply Take.tail)); first | done | fail) (n := 33) (by exact HPS.out) (by exact HPS0.out) (by kernel_rfl) (by exact pcs_oneA _) (fun w hM => hK _ _ ?_); clear hM0 hK K)) | fail) | (first | ((with_reducible refine at_load' ?_); (refine BigFrame.wpList_want (by rfl) fun K hK => ws_load hM rfl rfl (by (repeat (first | assumption | (with_reducible exact mZ) | apply mS)); first | done | fail) (n := 33) (by exact HPS.out) (by decide +kernel) (hK _ _ ?_); clear hK K)) | fail) | (go_at_call 40; have hM0 := hM; clear hM; (first | (with_reducible refine (HNW.out _ _ hM0).mono ?_) | fail); clear hM0; rintro _ w ⟨b, A, c, rfl, hM⟩) | (go_at_call 43; have hM0 := hM; clear hM; (first | (with_reducible refine (HO1.out _ _ _ _ _ _ _ _ _ _ hM0 (by (repeat (first | assumption | (with_reducible exact mZ) | apply mS)); first | done | fail)).mono ?_) | fail); clear hM0; rintro _ w ⟨rfl, hM⟩) | ((with_reducible refine at_load' ?_); refine BigFrame.wpList_want (by rfl) fun K hK => ws_rowload (k := 33) rfl (ad := ad) (by rfl) ((hM.flat (A := some ad) (n := 3) (size := 34) (xs := xs) (by (repeat (first | assumption | (with_reducible exact mZ) | apply mS)); first | done | fail) (by omega)).row List.mem_cons_self) HT0.out (by decide +kernel) (hK _ _ ?_); clear hK K) | ((with_reducible refine at_load' ?_); refine BigFrame.wpList_want (by rfl) fun K hK => ws_rowload (k := 101) rfl (by exact congrArg (fun z => Value.pointer (some z)) (add_mk ad 68 33 (by omega))) ((hM.flat (A := some ad) (n := 3) (size := 34) (xs := xs) (by (repeat (first | assumption | (with_reducible exact mZ) | apply mS)); first | done | fail) (by omega)).row List.mem_cons_self) HT2.out (by decide +kernel) (hK _ _ ?_); clear hK K))
  have hh : WvH b none none [] := ⟨.inl rfl, headA_none, .inr rfl⟩
  go_wp2_with (first | ((with_reducible refine at_load' ?_); refine BigFrame.wpList_want (by rfl) fun K hK => ws_rowload (k := 33) rfl (ad := ad) (by rfl) ((hM.flat (A := some ad) (n := 3) (size := 34) (xs := xs) (by (repeat (first | assumption | (with_reducible exact mZ) | apply mS)); first | done | fail) (by omega)).row List.mem_cons_self) HT0.out (by decide +kernel) (hK _ _ ?_); clear hK K) | ((with_reducible refine at_load' ?_); refine BigFrame.wpList_want (by rfl) fun K hK => ws_rowload (k := 101) rfl (by exact congrArg (fun z => Value.pointer (some z)) (add_mk ad 68 33 (by omega))) ((hM.flat (A := some ad) (n := 3) (size := 34) (xs := xs) (by (repeat (first | assumption | (with_reducible exact mZ) | apply mS)); first | done | fail) (by omega)).row List.mem_cons_self) HT2.out (by decide +kernel) (hK _ _ ?_); clear hK K) | (go_at_call 41; have hM0 := hM; clear hM; (first | (with_reducible refine (HG1.out _ _ _ _ _ _ _ _ hh (hM0.take3 (by (repeat (first | (with_reducible exact Take.head) | apply Take.tail)); first | done | fail) (by (repeat (first | (with_reducible exact Take.head) | apply Take.tail)); first | done | fail) (by (repeat (first | (with_reducible exact Take.head) | apply Take.tail)); first | done | fail))).mono ?_) | fail); clear hM0; rintro _ w ⟨A, c, q, B, d, rfl, hh, hM⟩) | (go_at_call 41; have hM0 := hM; clear hM; (first | (with_reducible refine (HG2.out _ _ _ _ _ _ _ _ hh (hM0.take3 (by (repeat (first | (with_reducible exact Take.head) | apply Take.tail)); first | done | fail) (by (repeat (first | (with_reducible exact Take.head) | apply Take.tail)); first | done | fail) (by (repeat (first | (with_reducible exact Take.head) | apply Take.tail)); first | done | fail))).mono ?_) | fail); clear hM0; rintro _ w ⟨A, c, q, B, d, rfl, hh, hM⟩) | (go_at_call 83; have hM0 := hM; clear hM; (first | (with_reducible refine (HNX.out _ _ _ _ _ _ _ _ hM0 (by (repeat (first | assumption | (with_reducible exact mZ) | apply mS)); first | done | fail) (by (repeat (first | assumption | (with_reducible exact mZ) | apply mS)); first | done | fail)).mono ?_) | fail); clear hM0; rintro _ w ⟨rfl, hM⟩) | (first | ((with_reducible refine at_alloc' ?_); (have hM0 := hM; clear hM; refine BigFrame.wpList_want (by rfl) fun K hK => ws_alloc hM0 (t := 131) rfl (wcs 0 (z32, 0)).toArray info_wnt (fun g7 w hM => hK _ _ ?_); clear hM0 hK K)) | fail) | (first | ((with_reducible refine at_store' ?_); (have hM0 := hM; clear hM; refine BigFrame.wpList_want (by rfl) fun K hK => ws_store hM0 rfl rfl rfl (by (repeat (first | (with_reducible exact Take.head) | apply Take.tail)); first | done | fail) (n := 34) (by exact HWS.out) (by exact HWZ.out) (by kernel_rfl) (by exact wcs_oneA _ _) (fun w hM => hK _ _ ?_); clear hM0 hK K)) | fail) | (first | ((with_reducible refine at_load' ?_); (refine BigFrame.wpList_want (by rfl) fun K hK => ws_load1 hM rfl rfl (by (repeat (first | assumption | (with_reducible exact mZ) | apply mS)); first | done | fail) (by exact HWK.out) (by decide +kernel) (hK _ _ ?_); clear hK K)) | fail) | (first | ((with_reducible refine at_load' ?_); (refine BigFrame.wpList_want (by rfl) fun K hK => ws_load1 hM rfl rfl (by (repeat (first | assumption | (with_reducible exact mZ) | apply mS)); first | done | fail) (by exact HW33.out) (by decide +kernel) (hK _ _ ?_); clear hK K)) | fail) | (go_at_call 41; have hM0 := hM; clear hM; (first | (with_reducible refine (HG3.out _ _ _ _ _ _ _ _ hh (hM0.take3 (by (repeat (first | (with_reducible exact Take.head) | apply Take.tail)); first | done | fail) (by (repeat (first | (with_reducible exact Take.head) | apply Take.tail)); first | done | fail) (by (repeat (first | (with_reducible exact Take.head) | apply Take.tail)); first | done | fail))).mono ?_) | fail); clear hM0; rintro _ w ⟨A, c, q, B, d, rfl, hh, hM⟩) | (go_at_call 41; have hM0 := hM; clear hM; (first | (with_reducible refine (HG4.out _ _ _ _ _ _ _ _ hh (hM0.take3 (by (repeat (first | (with_reducible exact Take.head) | apply Take.tail)); first | done | fail) (by (repeat (first | (with_reducible exact Take.head) | apply Take.tail)); first | done | fail) (by (repeat (first | (with_reducible exact Take.head) | apply Take.tail)); first | done | fail))).mono ?_) | fail); clear hM0; rintro _ w ⟨A, c, q, B, d, rfl, hh, hM⟩) | (go_at_call 43; have hM0 := hM; clear hM; (first | (with_reducible refine (HO0.out _ _ _ _ _ _ _ _ _ _ hM0 (by (repeat (first | assumption | (with_reducible exact mZ) | apply mS)); first | done | fail)).mono ?_) | fail); clear hM0; rintro _ w ⟨rfl, hM⟩))
  go_ret
  exact ⟨rfl, hM.sel (by repeat (first | (with_reducible exact Sel.refl) | (with_reducible exact Take.head) | (with_reducible apply Take.tail) | (with_reducible apply Sel.cons) | (with_reducible apply Sel.drop)))⟩
end Go.Proofs.Ytlhedbjjlomniaa
set_option linter.unusedSimpArgs false
set_option linter.unusedVariables false
namespace Go.Proofs.Ytlhedbjjlomniaa
open Go.RowKit Go.WideShapes Go.ChangeShapes Go.ChangeAt
section
variable {H : Type} {enc : TypeId × Value → H} {P : Program}
theorem post_of_below {f : Func} {s : ChangeSpec} {apart fresh handsOn again : Bool} {W W' : World} {args : Array Value} {v : Value} {ds gs : List (DataW H)} {before pa pv : List MemPlace}
    (hW : DataW.Whole enc P f.params.toList s.vars apart W args.toList ds gs before)
    (hres : ∀ (b : Nat) (sp : Nat → Bool) (hd : Bool), DataW.TrodAll enc P W' b sp hd f.resultTypes.toList (v.resultList f.resultTypes.size) (s.fn H (ds ++ gs)).results [])
    (hargs : ∀ sp : Nat → Bool, (∀ p ∈ before, sp p.block = true) → DataW.TrodAll enc P W' 0 sp true f.params.toList args.toList (s.fn H (ds ++ gs)).args pa)
    (hvars : ∀ sp : Nat → Bool, (∀ p ∈ before, sp p.block = true) → DataW.TrodVars enc P W' sp s.vars (s.fn H (ds ++ gs)).vars pv)
    (hps : before = pa ++ pv) (hb : Below W.heap.size W W')
    (hok : ∀ (j : Nat) (t : TypeId) (r : Value), f.resultTypes[j]? = some t → (v.resultList f.resultTypes.size)[j]? = some r → Value.okWide P W' .any 0 t r) :
    s.post enc P f apart fresh handsOn again W args v W' := by
  have hlt : ∀ p ∈ before, p.block < W.heap.size := fun p hp => hW.lt p hp
  have hold : ∀ p ∈ before, (fun b => decide (b < W.heap.size)) p.block = true := fun p hp => by simpa using hlt p hp
  refine ⟨ds, gs, before, [], pa, pv, hW, hres _ _ _, hargs _ hold, hvars _ hold, World.keptBut_mono (fun p hp => ⟨hp, ?_⟩) (hb.frame (· ∈ before)), fun _ => ?_⟩
  · rw [hps, List.mem_append] at hp
    exact Or.inr hp
  · obtain ⟨_, _, _, _, _, hz, hn⟩ := hW
    refine ⟨hok, _, _, ([] ++ pa) ++ pv, ⟨[] ++ pa, pv, trodAll_append (hargs _ (fun _ _ => rfl)) (hres _ _ _), hvars _ (fun _ _ => rfl), rfl, ?_, ?_⟩, ?_⟩
    · intro b off hp
      have hin : MemPlace.cell b off ∈ before := by rw [hps]; simpa using hp
      rw [hb.frozen (hlt _ hin)]
      exact hz b off hin
    · intro ha
      have := hn ha
      rw [hps] at this
      simpa using this
    · intro p hp _
      rw [hps]
      simpa using hp
/-- All arguments read as they did where nothing that was there has turned. -/
theorem args_stay (hl : laidOutB P = true) {W W' : World} (hb : Below W.heap.size W W') (sp : Nat → Bool) :
    ∀ (ts : List TypeId) (vs : List Value) (ds : List (DataW H)) (ps : List MemPlace), (ts.all fun t => P.readableRec t && decide (t < P.types.size)) = true →
      DataW.TrodAll enc P W 0 (fun _ => true) true ts vs ds ps → (∀ x ∈ ps, x.block < W.heap.size) → (∀ x ∈ ps, sp x.block = true) → DataW.TrodAll enc P W' 0 sp true ts vs ds ps := by
  intro ts
  induction ts with
  | nil =>
    intro vs ds ps _ h _ _
    obtain ⟨rfl, rfl, rfl⟩ := trodAll_nil h
    exact trodAll_mk0
  | cons t ts ih =>
    intro vs ds ps hr h hlt hs
    obtain ⟨v, vs', d, ds', p, q, rfl, rfl, rfl, h0, h1⟩ := trodAll_cons h
    simp only [List.all_cons, Bool.and_eq_true, decide_eq_true_eq] at hr
    exact trodAll_cons_mk (WideElems.Trod_stays hl hr.1.1 hr.1.2 h0 (fun x hx => hb.same (hlt x (List.mem_append.2 (.inl hx)))) (fun x hx => hs x (List.mem_append.2 (.inl hx))))
      (ih vs' ds' q (by simpa using hr.2) h1 (fun x hx => hlt x (List.mem_append.2 (.inr hx))) (fun x hx => hs x (List.mem_append.2 (.inr hx))))
variable {w : World} {base : Nat} {spare : Nat → Bool} {held : Bool}
/-- A string's argument. -/
theorem open_str {r : Reach} {b0 : Nat} {t : TypeId} {v : Value} {d : DataW H} {p : List MemPlace} (ht : P.underlying t = some .string) (hv : Value.okWide P w r b0 t v) (h : DataW.Trod enc P w base spare held t v d p) :
    ∃ l : List UInt8, v = .string ⟨l.toArray⟩ ∧ l.length ≤ 9223372036854775807 := by
  obtain ⟨s, rfl, _, _, hs⟩ := Go.ChangeMaps.open_string ht hv h
  refine ⟨s.data.toList, by congr 1, ?_⟩
  unfold maxLen at hs
  simpa using hs
theorem open_i64 {r : Reach} {b0 : Nat} {t : TypeId} {v : Value} {d : DataW H} {p : List MemPlace} (ht : P.underlying t = some (.int .i64)) (hv : Value.okWide P w r b0 t v) (h : DataW.Trod enc P w base spare held t v d p) :
    ∃ x : Int, v = .int .i64 x ∧ -9223372036854775808 ≤ x ∧ x ≤ 9223372036854775807 := by
  obtain ⟨x, rfl, _, _, hw⟩ := open_int ht hv h
  simp [Lit.wf, IntKind.min, IntKind.max, IntKind.signed, IntKind.bits] at hw
  exact ⟨x, rfl, by omega, by omega⟩
/-- A slice of strings. -/
theorem open_strl {r : Reach} {b0 : Nat} {t e : TypeId} {v : Value} {d : DataW H} {p : List MemPlace} (ht : P.underlying t = some (.slice e)) (he : P.underlying e = some .string) (hc : P.cellsOf e = 1)
    (hv : Value.okWide P w r b0 t v) (h : DataW.Trod enc P w base spare held t v d p) :
    ∃ (A : Option Addr) (n c : Nat) (ss : List (List UInt8)), v = .slice A n c ∧ Rd w 1 A n (svs ss) ∧ n ≤ 9223372036854775807 ∧ ∀ l ∈ ss, l.length ≤ 9223372036854775807 := by
  obtain ⟨a0, len, cap, rfl⟩ := okWide_slice ht hv
  obtain ⟨fuel, hf⟩ := h
  rcases Go.Deep.open_strs ht he hc hf with ⟨hcs, hx⟩ | ⟨a, len', cap', m, Sx, hcs, _, hl, hm, hmm, hx, hcell⟩
  · simp only [Value.cells, List.cons.injEq, Value.slice.injEq, and_true] at hcs
    obtain ⟨rfl, rfl, rfl⟩ := hcs
    exact ⟨none, 0, 0, [], rfl, Rd.none_, by omega, by simp⟩
  · simp only [Value.cells, List.cons.injEq, Value.slice.injEq, and_true] at hcs
    obtain ⟨rfl, rfl, rfl⟩ := hcs
    have hlm : len ≤ m := by rw [hmm]; split <;> omega
    unfold maxLen at hm hcell
    refine ⟨some a, len, cap, (List.range len).map fun i => (Sx i).data.toList, rfl, ⟨by simp [svs], fun hn => ⟨a, rfl, ?_, ?_⟩⟩, by omega, ?_⟩
    · have h1 := (hcell 0 (by omega)).1
      have := World.block_lt_of_cell? w _ h1
      rwa [block_of_add] at this
    · intro j u hu
      simp only [svs, List.map_map, List.getElem?_map] at hu
      obtain ⟨i, hi, rfl⟩ := Option.map_eq_some_iff.1 hu
      obtain ⟨hj, rfl⟩ : j < len ∧ j = i := by
        have := List.getElem?_eq_some_iff.1 hi
        simpa using this
      rw [(hcell j (by omega)).1]
      rfl
    · intro l hl'
      simp only [List.mem_map, List.mem_range] at hl'
      obtain ⟨i, hi, rfl⟩ := hl'
      have := (hcell i (by omega)).2
      simpa using this
end
end Go.Proofs.Ytlhedbjjlomniaa
set_option linter.unusedSimpArgs false
set_option linter.unusedVariables false
namespace Go.Proofs.Ytlhedbjjlomniaa
open Go.RowKit Go.WideShapes Go.ChangeShapes Go.ChangeAt
section
variable {H : Type} {enc : TypeId × Value → H} {P : Program} {w : World} {base : Nat} {spare : Nat → Bool} {held : Bool}
theorem open_intl {r : Reach} {b0 : Nat} {t e : TypeId} {v : Value} {d : DataW H} {p : List MemPlace} (ht : P.underlying t = some (.slice e)) (he : P.underlying e = some (.int .i64)) (hc : P.cellsOf e = 1)
    (hv : Value.okWide P w r b0 t v) (h : DataW.Trod enc P w base spare held t v d p) :
    ∃ (A : Option Addr) (n c : Nat) (l : List Int), v = .slice A n c ∧ Rd w 1 A n (ivs l) ∧ n ≤ 9223372036854775807 ∧ ∀ x ∈ l, -9223372036854775808 ≤ x ∧ x ≤ 9223372036854775807 := by
  obtain ⟨a0, len, cap, rfl⟩ := okWide_slice ht hv
  obtain ⟨fuel, hf⟩ := h
  rcases open_ints ht he hc hf with ⟨hcs, hx⟩ | ⟨a, len', cap', zs, hcs, _, hl, hm, hmm, hx, hcell, hwf⟩
  · simp only [Value.cells, List.cons.injEq, Value.slice.injEq, and_true] at hcs
    obtain ⟨rfl, rfl, rfl⟩ := hcs
    exact ⟨none, 0, 0, [], rfl, Rd.none_, by omega, by simp⟩
  · simp only [Value.cells, List.cons.injEq, Value.slice.injEq, and_true] at hcs
    obtain ⟨rfl, rfl, rfl⟩ := hcs
    have hlm : len ≤ zs.length := by rw [hmm]; split <;> omega
    unfold maxLen at hm
    refine ⟨some a, len, cap, zs.take len, rfl, ⟨by simp [ivs_len]; omega, fun hn => ⟨a, rfl, ?_, ?_⟩⟩, by omega, ?_⟩
    · have h1 := hcell 0 (by omega)
      have := World.block_lt_of_cell? w _ h1
      rwa [block_of_add] at this
    · intro j u hu
      simp only [ivs, List.getElem?_map] at hu
      obtain ⟨i, hi, rfl⟩ := Option.map_eq_some_iff.1 hu
      obtain ⟨hj, h2⟩ := List.getElem?_eq_some_iff.1 hi
      simp only [List.length_take] at hj
      rw [hcell j (by omega)]
      simp only [List.getElem_take] at h2
      rw [← h2]
      simp [iv, List.getD_eq_getElem?_getD, List.getElem?_eq_getElem (show j < zs.length by omega)]
    · intro x hx
      have hw := hwf x (List.mem_of_mem_take hx)
      simp [Lit.wf, IntKind.min, IntKind.max, IntKind.signed, IntKind.bits] at hw
      omega
end
end Go.Proofs.Ytlhedbjjlomniaa
