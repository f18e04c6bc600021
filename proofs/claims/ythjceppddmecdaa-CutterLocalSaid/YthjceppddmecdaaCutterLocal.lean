/- CutterLocal: for all texts and numbers the law answers true. No condition. -/
import Derived.Test.YthjceppddmecdaaCut8b
import Derived.Test.YthjceppddmecdaaCutterSizes
set_option linter.unusedSimpArgs false
set_option linter.unusedVariables false
namespace Go.Proofs.Ythjceppddmecdaa
open Go.RowKit
attribute [local go_sem] extract_mid extract_drop bget bsize wrap64_u8 i64_u8 u64_u8 bappend
theorem flat_drop_len (xs : List (List UInt8)) (k : Nat) (x : List UInt8) (h : xs[k]? = some x) : ((xs.drop k).flatten).length = x.length + ((xs.drop (k + 1)).flatten).length := by
  obtain ⟨h1, h2⟩ := List.getElem?_eq_some_iff.1 h
  rw [List.drop_eq_getElem_cons h1, h2, List.flatten_cons, List.length_append]
theorem flat_le (xs : List (List UInt8)) (k : Nat) : ((xs.drop k).flatten).length ≤ xs.flatten.length := by
  have := congrArg (fun l => (List.flatten l).length) (List.take_append_drop k xs)
  simp only [List.flatten_append, List.length_append] at this
  omega
/-- From a cut on the chunks are those of what follows. -/
theorem cuts_tail (t : List Nat) (a s : List UInt8) (k : Nat) (h : (((cuts t (a ++ s)).drop k).flatten).length ≤ s.length) :
    (cuts t (a ++ s)).drop k = cuts t (s.drop (s.length - (((cuts t (a ++ s)).drop k).flatten).length)) := by
  obtain ⟨m, hm, h1, h2⟩ := cuts_suffix t k (a ++ s)
  have e : ((cuts t (a ++ s)).drop k).flatten = (a ++ s).drop m := by rw [h2, cuts_join]
  have hl : (((cuts t (a ++ s)).drop k).flatten).length = a.length + s.length - m := by rw [e]; simp
  rw [List.length_append] at hm
  rw [h2, cuts_join]
  congr 1
  rw [hl] at h
  rw [List.length_drop, List.length_append, List.drop_append, List.drop_of_length_le (by omega), List.nil_append]
  congr 1
  omega
theorem Star.row_cutS {L : List SProp} {w : World} {A : Option Addr} {n k c : Nat} {l : List (List UInt8)} (h : Star L w) (hx : rowE 1 A n (svs l) ∈ L) (hk : k ≤ n) (hc : n ≤ c) :
    Star (rowE 1 (if c = k then A else A.map (·.add k)) (n - k) (svs (l.drop k)) :: L) w := by
  have h9 := (h.row hx).cut hk hc
  rw [Nat.mul_one] at h9
  have e : (svs l).drop k = svs (l.drop k) := by simp [svs]
  rw [e] at h9
  refine h.view hx rfl rfl (fun b ⟨ad, e2, h1, h2⟩ => ?_) h9
  split at e2
  · exact ⟨ad, e2, by omega, h2⟩
  · cases A with
    | none => cases e2
    | some ad2 => injection e2 with e2; subst e2; exact ⟨ad2, rfl, by omega, by rw [h2]; exact block_of_add _ _⟩
theorem ccut_rowc {F : List SProp} {gt : Nat} (t : List Nat) (s : List UInt8) (ht : t.length = 256) (hs : s.length ≤ 3000) (w : World) (hM : Star F w) (hT : tabE gt t ∈ F) :
    Calls Try.prog 32 #[.pointer (some ⟨gt, 0, none⟩), .string ⟨s.toArray⟩] w fun r w' => ∃ B cb, ((cuts t s).length ≤ 3000 ∧ (cuts t s).length ≤ cb) ∧ r = .returned (.slice B (cuts t s).length cb) ∧ Star (rowE 1 B (cuts t s).length (svs (cuts t s)) :: F) w' :=
  (ccut_star t s ht (by omega) w hM hT).mono fun _ _ ⟨B, cb, h1, h2⟩ => ⟨B, cb, ⟨by have := cuts_count t _ s (Nat.le_refl _); omega, h2.head.2.1⟩, h1, h2.tail_freeze⟩
set_option maxRecDepth 100000 in
set_option maxHeartbeats 4000000 in
theorem cutterLocal_walk {F : List SProp} (a0 : List UInt8) (_w0 : a0.length ≤ 9223372036854775807) (b0 : List UInt8) (_w3 : b0.length ≤ 9223372036854775807) (c0 : List UInt8) (_w4 : c0.length ≤ 9223372036854775807) (n : Int) (_w1 : -9223372036854775808 ≤ n) (_w2 : n ≤ 9223372036854775807) (w : World) (hM : Star F w) :
    Calls Try.prog 9 #[.string ⟨a0.toArray⟩, .string ⟨b0.toArray⟩, .string ⟨c0.toArray⟩, .int .i64 n] w fun r w' => r = .returned (.bool true) ∧ Star F w' := by
  have k1 := cut100_len a0
  have H1 := cut100_any a0
  generalize cut100 a0 = x at k1 H1
  have HC1 := Lib.hid H1
  clear H1
  have k2 := cut100_len b0
  have H2 := cut100_any b0
  generalize cut100 b0 = y at k2 H2
  have HC2 := Lib.hid H2
  clear H2
  have k3 := cut300_len c0
  have H3 := cut300_any c0
  generalize cut300 c0 = z at k3 H3
  have HC3 := Lib.hid H3
  clear H3
  have HNW : Hid (∀ {L : List SProp} (w : World), Star L w → Calls Try.prog 28 #[.string ⟨#[99, 97, 114, 97, 118, 97, 110]⟩] w fun r w' => ∃ g, r = .returned (.pointer (some ⟨g, 0, none⟩)) ∧ Star (tabE g (gTab carB) :: L) w') := fun w hM => gnew_star carB (by simp [carB]) w hM
  have hTl := gTab_len carB
  generalize gTab carB = T at HNW hTl
  have HTL := Lib.hid hTl
  clear hTl
  obtain ⟨n2, hn2⟩ : ∃ n2 : Int, n2 = n.tdiv 2 := ⟨_, rfl⟩
  have hn3 : -9223372036854775808 ≤ n2 ∧ n2 ≤ 9223372036854775807 := by
    rcases Int.le_total 0 n with h | h
    · rw [hn2, Int.tdiv_eq_ediv_of_nonneg h]; omega
    · obtain ⟨m, rfl⟩ : ∃ m, n = -m := ⟨-n, by omega⟩
      rw [hn2, Int.neg_tdiv, Int.tdiv_eq_ediv_of_nonneg (by omega)]; omega
  have hd2 : IntKind.i64.wrap (n.tdiv 2) = n2 := by rw [← hn2]; exact IntWalk.i64_in _ hn3
  have HB : Hid (∀ {L : List SProp} (w : World), Star L w → Calls Try.prog 26 #[.string ⟨x.toArray⟩, .int .i64 n] w fun r w' => ∃ s : List UInt8, s.length ≤ 1500 ∧ r = .returned (.string ⟨s.toArray⟩) ∧ Star L w') := fun w hM => bytes8 x (by omega) n _w1 _w2 w hM
  have HB2 : Hid (∀ {L : List SProp} (w : World), Star L w → Calls Try.prog 26 #[.string ⟨y.toArray⟩, .int .i64 n2] w fun r w' => ∃ s : List UInt8, s.length ≤ 1500 ∧ r = .returned (.string ⟨s.toArray⟩) ∧ Star L w') := fun w hM => bytes8 y (by omega) n2 hn3.1 hn3.2 w hM
  have HB3 : Hid (∀ {L : List SProp} (w : World), Star L w → Calls Try.prog 26 #[.string ⟨z.toArray⟩, .int .i64 900] w fun r w' => ∃ s : List UInt8, s.length ≤ 1500 ∧ r = .returned (.string ⟨s.toArray⟩) ∧ Star L w') := fun w hM => bytes8 z (by omega) 900 (by omega) (by omega) w hM
  clear hn2 hn3
  go_enter Try.func9, Try.ntmps9
  go_wp2_with (first | (go_at_call 24; have hM0 := hM; clear hM; (first | (with_reducible refine (starq (HC1.out _) hM0).mono ?_) | fail); clear hM0; rintro _ w ⟨rfl, hM⟩) | (go_at_call 24; have hM0 := hM; clear hM; (first | (with_reducible refine (starq (HC2.out _) hM0).mono ?_) | fail); clear hM0; rintro _ w ⟨rfl, hM⟩) | (go_at_call 24; have hM0 := hM; clear hM; (first | (with_reducible refine (starq (HC3.out _) hM0).mono ?_) | fail); clear hM0; rintro _ w ⟨rfl, hM⟩) | (go_at_call 26; have hM0 := hM; clear hM; (first | (with_reducible refine (HB.out _ hM0).mono ?_) | fail); clear hM0; rintro _ w ⟨a, ha, rfl, hM⟩) | (go_at_call 26; have hM0 := hM; clear hM; (first | (with_reducible refine (HB2.out _ hM0).mono ?_) | fail); clear hM0; rintro _ w ⟨b, hb, rfl, hM⟩) | (go_at_call 26; have hM0 := hM; clear hM; (first | (with_reducible refine (HB3.out _ hM0).mono ?_) | fail); clear hM0; rintro _ w ⟨s, hs, rfl, hM⟩) | (go_at_call 27; have hM0 := hM; clear hM; (first | (with_reducible refine (awake08 _ hM0).mono ?_) | fail); clear hM0; rintro _ w ⟨rfl, hM⟩) | (go_at_call 28; have hM0 := hM; clear hM; (first | (with_reducible refine (HNW.out _ hM0).mono ?_) | fail); clear hM0; rintro _ w ⟨g, rfl, hM⟩) | (go_at_call 32; have hM0 := hM; clear hM; (first | (with_reducible refine (ccut_rowc T (a ++ s) HTL.out (by simp; omega) _ hM0 (by (repeat (first | assumption | (with_reducible exact List.mem_cons_self) | apply List.mem_cons_of_mem)); first | done | fail)).mono ?_) | fail); clear hM0; rintro _ w ⟨B1, c1, hx1, rfl, hM⟩) | (go_at_call 32; have hM0 := hM; clear hM; (first | (with_reducible refine (ccut_rowc T (b ++ s) HTL.out (by simp; omega) _ hM0 (by (repeat (first | assumption | (with_reducible exact List.mem_cons_self) | apply List.mem_cons_of_mem)); first | done | fail)).mono ?_) | fail); clear hM0; rintro _ w ⟨B2, c2, hx2, rfl, hM⟩))
  have HT1 := Lib.hid (cuts_tail T a s)
  have HT2 := Lib.hid (cuts_tail T b s)
  have hf1 : (cuts T (a ++ s)).flatten.length ≤ 3000 := by rw [cuts_join, List.length_append]; omega
  have hf2 : (cuts T (b ++ s)).flatten.length ≤ 3000 := by rw [cuts_join, List.length_append]; omega
  generalize cuts T (a ++ s) = xs at HT1 hf1 hx1 hM ⊢
  generalize cuts T (b ++ s) = ys at HT2 hf2 hx2 hM ⊢
  have HF1 := Lib.hid hf1
  have HF2 := Lib.hid hf2
  clear hf1 hf2 hb ha
  go_loopw [12, 13, 14, 15] (fun i j p q wr => ∃ k l left right : Nat, k ≤ xs.length ∧ l ≤ ys.length ∧ i = .int .i64 ((k : Int) - 1) ∧ j = .int .i64 ((l : Int) - 1) ∧ p = .int .i64 left ∧ q = .int .i64 right ∧ Hid (left = ((xs.drop k).flatten).length) ∧ Hid (right = ((ys.drop l).flatten).length) ∧
    Star (rowE 1 B1 xs.length (svs xs) :: rowE 1 B2 ys.length (svs ys) :: tabE g T :: F) wr) (fun i j _ _ _ => (intOf i + 1).toNat + (intOf j + 1).toNat)
  case atStart => exact ⟨xs.length, ys.length, 0, 0, by omega, by omega, rfl, rfl, rfl, rfl, (by show _ = _; rw [List.drop_length]; rfl), (by show _ = _; rw [List.drop_length]; rfl), hM.sel (by repeat (first | (with_reducible exact Sel.refl) | (with_reducible exact Take.head) | (with_reducible apply Take.tail) | (with_reducible apply Sel.cons) | (with_reducible apply Sel.drop)))⟩
  case round =>
    clear hM
    obtain ⟨k, l, left, right, hk, hl, rfl, rfl, rfl, rfl, hL, hR, hM⟩ := hrel
    have hL3 : left ≤ 3000 := by have := flat_le xs k; have := HF1.out; rw [hL.out]; omega
    have hR3 : right ≤ 3000 := by have := flat_le ys l; have := HF2.out; rw [hR.out]; omega
    by_cases hkl : 1 ≤ k ∧ 1 ≤ l
    · obtain ⟨hk1, hl1⟩ := hkl
      obtain ⟨i, rfl⟩ : ∃ i, k = i + 1 := ⟨k - 1, by omega⟩
      obtain ⟨j, rfl⟩ : ∃ j, l = j + 1 := ⟨l - 1, by omega⟩
      have e1 : (((i + 1 : Nat) : Int) - 1) = (i : Int) := by omega
      have e2 : (((j + 1 : Nat) : Int) - 1) = (j : Int) := by omega
      obtain ⟨ad1, d1, rfl, hv1, hg1, _⟩ := hM.elemS (A := B1) (n := xs.length) (l := xs) (k := i) (by simp) (by omega)
      obtain ⟨ad2, d2, rfl, hv2, hg2, _⟩ := hM.elemS (A := B2) (n := ys.length) (l := ys) (k := j) (by simp) (by omega)
      have D1 := Lib.hid (flat_drop_len xs i d1 hg1)
      have D2 := Lib.hid (flat_drop_len ys j d2 hg2)
      have hd1 : d1.length ≤ 3000 := by have := flat_le xs i; have := D1.out; have := HF1.out; omega
      have hd2 : d2.length ≤ 3000 := by have := flat_le ys j; have := D2.out; have := HF2.out; omega
      have q1 : (i : Int) < (xs.length : Int) := by omega
      have q2 : (j : Int) < (ys.length : Int) := by omega
      clear hg1 hg2
      by_cases hc : left = right ∧ 0 < left ∧ left ≤ s.length
      · obtain ⟨rfl, hc1, hc2⟩ := hc
        have f3 : (0 : Int) < (left : Int) := by omega
        have f4 : (left : Int) ≤ (s.length : Int) := by omega
        obtain ⟨Ka, hK⟩ : ∃ Ka, Ka = i + 1 := ⟨_, rfl⟩
        obtain ⟨Jb, hJ⟩ : ∃ Jb, Jb = j + 1 := ⟨_, rfl⟩
        obtain ⟨m, hm⟩ : ∃ m, m = s.length - left := ⟨_, rfl⟩
        rw [← hK] at hk
        rw [← hJ] at hl
        have w1 : IntKind.i64.wrap ((i : Int) + 1) = (Ka : Int) := by rw [IntWalk.i64_in _ (by omega)]; omega
        have w2 : IntKind.i64.wrap ((j : Int) + 1) = (Jb : Int) := by rw [IntWalk.i64_in _ (by omega)]; omega
        have w3 : IntKind.i64.wrap ((s.length : Int) - (left : Int)) = (m : Int) := by rw [IntWalk.i64_in _ (by omega)]; omega
        have p1 : (0 : Int) ≤ (Ka : Int) := by omega
        have p2 : (0 : Int) ≤ (Jb : Int) := by omega
        have p3 : (0 : Int) ≤ (m : Int) := by omega
        have p4 : (Ka : Int) ≤ (xs.length : Int) := by omega
        have p5 : (Jb : Int) ≤ (ys.length : Int) := by omega
        have p6 : (m : Int) ≤ (s.length : Int) := by omega
        have HX1 : Hid (xs.drop Ka = cuts T (s.drop m)) := by
          have := HT1.out Ka
          rw [hK, ← hL.out, ← hm, ← hK] at this
          exact this hc2
        have HX2 : Hid (ys.drop Jb = cuts T (s.drop m)) := by
          have := HT2.out Jb
          rw [hJ, ← hR.out, ← hm, ← hJ] at this
          exact this hc2
        have hcl : (cuts T (s.drop m)).length ≤ 1000000 := by have := cuts_count T _ (s.drop m) (Nat.le_refl _); rw [List.length_drop] at this; omega
        have hxl : (xs.drop Ka).length = xs.length - Ka := by simp
        have hyl : (ys.drop Jb).length = ys.length - Jb := by simp
        have HXL : Hid (xs.length - Ka = (cuts T (s.drop m)).length) := by show _ = _; rw [← hxl, HX1.out]
        have HYL : Hid (ys.length - Jb = (cuts T (s.drop m)).length) := by show _ = _; rw [← hyl, HX2.out]
        replace hM := hM.row_cutS (A := some ad1) (n := xs.length) (k := Ka) (c := c1) (l := xs) (by (repeat (first | assumption | (with_reducible exact List.mem_cons_self) | apply List.mem_cons_of_mem)); first | done | fail) hk hx1.2
        replace hM := hM.row_cutS (A := some ad2) (n := ys.length) (k := Jb) (c := c2) (l := ys) (by (repeat (first | assumption | (with_reducible exact List.mem_cons_self) | apply List.mem_cons_of_mem)); first | done | fail) hl hx2.2
        obtain ⟨P1, hP1⟩ : ∃ P1, (if c1 = Ka then some ad1 else some (ad1.add Ka)) = P1 := ⟨_, rfl⟩
        obtain ⟨P2, hP2⟩ : ∃ P2, (if c2 = Jb then some ad2 else some (ad2.add Jb)) = P2 := ⟨_, rfl⟩
        simp only [Option.map_some] at hM
        rw [hP1, hP2, HX1.out, HX2.out] at hM
        rw [e1, e2]
        clear hxl hyl hm e1 e2 hK hJ
        have HRC : Hid (∀ {L : List SProp} (w : World), Star L w → tabE g T ∈ L → Calls Try.prog 29 #[.slice (some ⟨g, 0, none⟩) 256 256, .string ⟨(s.drop m).toArray⟩] w fun r w' => ∃ B cb, r = .returned (.slice B (cuts T (s.drop m)).length cb) ∧ Star (rowE 1 B (cuts T (s.drop m)).length (svs (cuts T (s.drop m))) :: L) w') := fun w hM hT => rcut_row (some ⟨g, 0, none⟩) 256 T (s.drop m) HTL.out (by simp; omega) w hM hT
        generalize cuts T (s.drop m) = Q at hcl HXL HYL hM HRC
        go_wp2_with fail
        (refine region_RS ([rowE 1 P2 (ys.length - Jb) (svs Q), rowE 1 P1 (xs.length - Ka) (svs Q), tabE g T]) [] (by kernel_rfl) hM ?_; clear hM; change RS _ _ _ _ _ _ 28 (Array.replicate 28 false) _ _; refine RS_take (i := 0) rfl (by decide +kernel) (fun _ _ _ h => h) (by first | (intro x hx; (repeat (first | exact hx | apply List.mem_cons_of_mem)); done) | ((repeat (refine List.forall_mem_cons.2 ⟨(by (repeat (first | assumption | (with_reducible exact List.mem_cons_self) | apply List.mem_cons_of_mem)); first | done | fail), ?_⟩)); intro x hx; first | (cases hx; done) | ((repeat (first | exact hx | apply List.mem_cons_of_mem)); done))) (stab_pure (by rfl) (fun w => (by go_simp; try with_reducible rfl))) ?_; simp only [Act.put, List.setIfInBounds_toArray, List.set_cons_zero, List.set_cons_succ]; refine RS_take (i := 1) rfl (by decide +kernel) (fun _ _ _ h => h) (by first | (intro x hx; (repeat (first | exact hx | apply List.mem_cons_of_mem)); done) | ((repeat (refine List.forall_mem_cons.2 ⟨(by (repeat (first | assumption | (with_reducible exact List.mem_cons_self) | apply List.mem_cons_of_mem)); first | done | fail), ?_⟩)); intro x hx; first | (cases hx; done) | ((repeat (first | exact hx | apply List.mem_cons_of_mem)); done))) (stab_pure (by rfl) (fun w => (by go_simp; try with_reducible rfl))) ?_; simp only [Act.put, List.setIfInBounds_toArray, List.set_cons_zero, List.set_cons_succ]; refine RS_take (i := 2) rfl (by decide +kernel) (fun _ _ _ h => h) (by first | (intro x hx; (repeat (first | exact hx | apply List.mem_cons_of_mem)); done) | ((repeat (refine List.forall_mem_cons.2 ⟨(by (repeat (first | assumption | (with_reducible exact List.mem_cons_self) | apply List.mem_cons_of_mem)); first | done | fail), ?_⟩)); intro x hx; first | (cases hx; done) | ((repeat (first | exact hx | apply List.mem_cons_of_mem)); done))) (stab_pure (by rfl) (fun w => (by go_simp; try with_reducible rfl))) ?_; simp only [Act.put, List.setIfInBounds_toArray, List.set_cons_zero, List.set_cons_succ]; refine RS_take (i := 3) rfl (by decide +kernel) (fun _ _ _ h => h) (by first | (intro x hx; (repeat (first | exact hx | apply List.mem_cons_of_mem)); done) | ((repeat (refine List.forall_mem_cons.2 ⟨(by (repeat (first | assumption | (with_reducible exact List.mem_cons_self) | apply List.mem_cons_of_mem)); first | done | fail), ?_⟩)); intro x hx; first | (cases hx; done) | ((repeat (first | exact hx | apply List.mem_cons_of_mem)); done))) (stab_pure (by rfl) (fun w => (by go_simp; try with_reducible rfl))) ?_; simp only [Act.put, List.setIfInBounds_toArray, List.set_cons_zero, List.set_cons_succ]; refine RS_take (i := 4) rfl (by decide +kernel) (fun _ _ _ h => h) (by first | (intro x hx; (repeat (first | exact hx | apply List.mem_cons_of_mem)); done) | ((repeat (refine List.forall_mem_cons.2 ⟨(by (repeat (first | assumption | (with_reducible exact List.mem_cons_self) | apply List.mem_cons_of_mem)); first | done | fail), ?_⟩)); intro x hx; first | (cases hx; done) | ((repeat (first | exact hx | apply List.mem_cons_of_mem)); done))) (stab_pure (by rfl) (fun w => (by go_simp; try with_reducible rfl))) ?_; simp only [Act.put, List.setIfInBounds_toArray, List.set_cons_zero, List.set_cons_succ]; refine RS_take (i := 5) rfl (by decide +kernel) (fun _ _ _ h => h) (by first | (intro x hx; (repeat (first | exact hx | apply List.mem_cons_of_mem)); done) | ((repeat (refine List.forall_mem_cons.2 ⟨(by (repeat (first | assumption | (with_reducible exact List.mem_cons_self) | apply List.mem_cons_of_mem)); first | done | fail), ?_⟩)); intro x hx; first | (cases hx; done) | ((repeat (first | exact hx | apply List.mem_cons_of_mem)); done))) (stab_pure (by rfl) (fun w => (by go_simp; try with_reducible rfl))) ?_; simp only [Act.put, List.setIfInBounds_toArray, List.set_cons_zero, List.set_cons_succ]; refine RS_take (i := 6) rfl (by decide +kernel) (fun _ _ _ h => h) (by first | (intro x hx; (repeat (first | exact hx | apply List.mem_cons_of_mem)); done) | ((repeat (refine List.forall_mem_cons.2 ⟨(by (repeat (first | assumption | (with_reducible exact List.mem_cons_self) | apply List.mem_cons_of_mem)); first | done | fail), ?_⟩)); intro x hx; first | (cases hx; done) | ((repeat (first | exact hx | apply List.mem_cons_of_mem)); done))) (stab_pure (by rfl) (fun w => (by go_simp; try with_reducible rfl))) ?_; simp only [Act.put, List.setIfInBounds_toArray, List.set_cons_zero, List.set_cons_succ]; refine RS_take (i := 7) rfl (by decide +kernel) (fun _ _ _ h => h) (by first | (intro x hx; (repeat (first | exact hx | apply List.mem_cons_of_mem)); done) | ((repeat (refine List.forall_mem_cons.2 ⟨(by (repeat (first | assumption | (with_reducible exact List.mem_cons_self) | apply List.mem_cons_of_mem)); first | done | fail), ?_⟩)); intro x hx; first | (cases hx; done) | ((repeat (first | exact hx | apply List.mem_cons_of_mem)); done))) (stab_pure (by rfl) (fun w => (by go_simp; try with_reducible rfl))) ?_; simp only [Act.put, List.setIfInBounds_toArray, List.set_cons_zero, List.set_cons_succ]; refine RS_take (i := 8) rfl (by decide +kernel) (fun _ _ _ h => h) (by first | (intro x hx; (repeat (first | exact hx | apply List.mem_cons_of_mem)); done) | ((repeat (refine List.forall_mem_cons.2 ⟨(by (repeat (first | assumption | (with_reducible exact List.mem_cons_self) | apply List.mem_cons_of_mem)); first | done | fail), ?_⟩)); intro x hx; first | (cases hx; done) | ((repeat (first | exact hx | apply List.mem_cons_of_mem)); done))) (stab_call (by rfl) (fun w => (by go_simp; try with_reducible rfl)) (fun L w hL hM => (same8e (A := P1) (B := P2) (n := xs.length - Ka) (m := ys.length - Jb) (c := c1 - Ka) (d := c2 - Jb) Q w hM (hL _ (by (repeat (first | assumption | (with_reducible exact List.mem_cons_self) | apply List.mem_cons_of_mem)); first | done | fail)) (hL _ (by (repeat (first | assumption | (with_reducible exact List.mem_cons_self) | apply List.mem_cons_of_mem)); first | done | fail)) (by omega) HXL.out HYL.out rfl rfl))) ?_; simp only [Act.put, List.setIfInBounds_toArray, List.set_cons_zero, List.set_cons_succ]; refine RS_take (i := 9) rfl (by decide +kernel) (fun _ _ _ h => h) (by first | (intro x hx; (repeat (first | exact hx | apply List.mem_cons_of_mem)); done) | ((repeat (refine List.forall_mem_cons.2 ⟨(by (repeat (first | assumption | (with_reducible exact List.mem_cons_self) | apply List.mem_cons_of_mem)); first | done | fail), ?_⟩)); intro x hx; first | (cases hx; done) | ((repeat (first | exact hx | apply List.mem_cons_of_mem)); done))) (stab_pure (by rfl) (fun w => (by go_simp; try with_reducible rfl))) ?_; simp only [Act.put, List.setIfInBounds_toArray, List.set_cons_zero, List.set_cons_succ]; refine RS_take (i := 10) rfl (by decide +kernel) (fun _ _ _ h => h) (by first | (intro x hx; (repeat (first | exact hx | apply List.mem_cons_of_mem)); done) | ((repeat (refine List.forall_mem_cons.2 ⟨(by (repeat (first | assumption | (with_reducible exact List.mem_cons_self) | apply List.mem_cons_of_mem)); first | done | fail), ?_⟩)); intro x hx; first | (cases hx; done) | ((repeat (first | exact hx | apply List.mem_cons_of_mem)); done))) (stab_pure (by rfl) (fun w => (by go_simp; try with_reducible rfl))) ?_; simp only [Act.put, List.setIfInBounds_toArray, List.set_cons_zero, List.set_cons_succ]; refine RS_take (i := 11) rfl (by decide +kernel) (fun _ _ _ h => h) (by first | (intro x hx; (repeat (first | exact hx | apply List.mem_cons_of_mem)); done) | ((repeat (refine List.forall_mem_cons.2 ⟨(by (repeat (first | assumption | (with_reducible exact List.mem_cons_self) | apply List.mem_cons_of_mem)); first | done | fail), ?_⟩)); intro x hx; first | (cases hx; done) | ((repeat (first | exact hx | apply List.mem_cons_of_mem)); done))) (stab_pure (by rfl) (fun w => (by go_simp; try with_reducible rfl))) ?_; simp only [Act.put, List.setIfInBounds_toArray, List.set_cons_zero, List.set_cons_succ]; refine RS_take (i := 12) rfl (by decide +kernel) (fun _ _ _ h => h) (by first | (intro x hx; (repeat (first | exact hx | apply List.mem_cons_of_mem)); done) | ((repeat (refine List.forall_mem_cons.2 ⟨(by (repeat (first | assumption | (with_reducible exact List.mem_cons_self) | apply List.mem_cons_of_mem)); first | done | fail), ?_⟩)); intro x hx; first | (cases hx; done) | ((repeat (first | exact hx | apply List.mem_cons_of_mem)); done))) (stab_pure (by rfl) (fun w => (by go_simp; try with_reducible rfl))) ?_; simp only [Act.put, List.setIfInBounds_toArray, List.set_cons_zero, List.set_cons_succ]; refine RS_take (i := 13) rfl (by decide +kernel) (fun _ _ _ h => h) (by first | (intro x hx; (repeat (first | exact hx | apply List.mem_cons_of_mem)); done) | ((repeat (refine List.forall_mem_cons.2 ⟨(by (repeat (first | assumption | (with_reducible exact List.mem_cons_self) | apply List.mem_cons_of_mem)); first | done | fail), ?_⟩)); intro x hx; first | (cases hx; done) | ((repeat (first | exact hx | apply List.mem_cons_of_mem)); done))) (stab_pure (by rfl) (fun w => (by go_simp; try with_reducible rfl))) ?_; simp only [Act.put, List.setIfInBounds_toArray, List.set_cons_zero, List.set_cons_succ]; refine RS_take (i := 14) rfl (by decide +kernel) (fun _ _ _ h => h) (by first | (intro x hx; (repeat (first | exact hx | apply List.mem_cons_of_mem)); done) | ((repeat (refine List.forall_mem_cons.2 ⟨(by (repeat (first | assumption | (with_reducible exact List.mem_cons_self) | apply List.mem_cons_of_mem)); first | done | fail), ?_⟩)); intro x hx; first | (cases hx; done) | ((repeat (first | exact hx | apply List.mem_cons_of_mem)); done))) (stab_pure (by rfl) (fun w => (by go_simp; try with_reducible rfl))) ?_; simp only [Act.put, List.setIfInBounds_toArray, List.set_cons_zero, List.set_cons_succ]; refine RS_take (i := 15) rfl (by decide +kernel) (fun _ _ _ h => h) (by first | (intro x hx; (repeat (first | exact hx | apply List.mem_cons_of_mem)); done) | ((repeat (refine List.forall_mem_cons.2 ⟨(by (repeat (first | assumption | (with_reducible exact List.mem_cons_self) | apply List.mem_cons_of_mem)); first | done | fail), ?_⟩)); intro x hx; first | (cases hx; done) | ((repeat (first | exact hx | apply List.mem_cons_of_mem)); done))) (stab_pure (by rfl) (fun w => (by go_simp; try with_reducible rfl))) ?_; simp only [Act.put, List.setIfInBounds_toArray, List.set_cons_zero, List.set_cons_succ]; refine RS_take (i := 16) rfl (by decide +kernel) (fun _ _ _ h => h) (by first | (intro x hx; (repeat (first | exact hx | apply List.mem_cons_of_mem)); done) | ((repeat (refine List.forall_mem_cons.2 ⟨(by (repeat (first | assumption | (with_reducible exact List.mem_cons_self) | apply List.mem_cons_of_mem)); first | done | fail), ?_⟩)); intro x hx; first | (cases hx; done) | ((repeat (first | exact hx | apply List.mem_cons_of_mem)); done))) (stab_pure (by rfl) (fun w => (by go_simp; try with_reducible rfl))) ?_; simp only [Act.put, List.setIfInBounds_toArray, List.set_cons_zero, List.set_cons_succ]; refine RS_take (i := 17) rfl (by decide +kernel) (fun _ _ _ h => h) (by first | (intro x hx; (repeat (first | exact hx | apply List.mem_cons_of_mem)); done) | ((repeat (refine List.forall_mem_cons.2 ⟨(by (repeat (first | assumption | (with_reducible exact List.mem_cons_self) | apply List.mem_cons_of_mem)); first | done | fail), ?_⟩)); intro x hx; first | (cases hx; done) | ((repeat (first | exact hx | apply List.mem_cons_of_mem)); done))) (stab_pure (by rfl) (fun w => (by go_simp; try with_reducible rfl))) ?_; simp only [Act.put, List.setIfInBounds_toArray, List.set_cons_zero, List.set_cons_succ]; refine RS_take (i := 18) rfl (by decide +kernel) (fun _ _ _ h => h) (by first | (intro x hx; (repeat (first | exact hx | apply List.mem_cons_of_mem)); done) | ((repeat (refine List.forall_mem_cons.2 ⟨(by (repeat (first | assumption | (with_reducible exact List.mem_cons_self) | apply List.mem_cons_of_mem)); first | done | fail), ?_⟩)); intro x hx; first | (cases hx; done) | ((repeat (first | exact hx | apply List.mem_cons_of_mem)); done))) (stab_pure (by rfl) (fun w => (by go_simp; try with_reducible rfl))) ?_; simp only [Act.put, List.setIfInBounds_toArray, List.set_cons_zero, List.set_cons_succ]; refine RS_take (i := 19) rfl (by decide +kernel) (fun _ _ _ h => h) (by first | (intro x hx; (repeat (first | exact hx | apply List.mem_cons_of_mem)); done) | ((repeat (refine List.forall_mem_cons.2 ⟨(by (repeat (first | assumption | (with_reducible exact List.mem_cons_self) | apply List.mem_cons_of_mem)); first | done | fail), ?_⟩)); intro x hx; first | (cases hx; done) | ((repeat (first | exact hx | apply List.mem_cons_of_mem)); done))) (stab_pure (by rfl) (fun w => (by go_simp; try with_reducible rfl))) ?_; simp only [Act.put, List.setIfInBounds_toArray, List.set_cons_zero, List.set_cons_succ]; refine RS_take (i := 20) rfl (by decide +kernel) (fun _ _ _ h => h) (by first | (intro x hx; (repeat (first | exact hx | apply List.mem_cons_of_mem)); done) | ((repeat (refine List.forall_mem_cons.2 ⟨(by (repeat (first | assumption | (with_reducible exact List.mem_cons_self) | apply List.mem_cons_of_mem)); first | done | fail), ?_⟩)); intro x hx; first | (cases hx; done) | ((repeat (first | exact hx | apply List.mem_cons_of_mem)); done))) (stab_pure (by rfl) (fun w => (by go_simp; try with_reducible rfl))) ?_; simp only [Act.put, List.setIfInBounds_toArray, List.set_cons_zero, List.set_cons_succ]; refine RS_take (i := 21) rfl (by decide +kernel) (fun _ _ _ h => h) (by first | (intro x hx; (repeat (first | exact hx | apply List.mem_cons_of_mem)); done) | ((repeat (refine List.forall_mem_cons.2 ⟨(by (repeat (first | assumption | (with_reducible exact List.mem_cons_self) | apply List.mem_cons_of_mem)); first | done | fail), ?_⟩)); intro x hx; first | (cases hx; done) | ((repeat (first | exact hx | apply List.mem_cons_of_mem)); done))) (stab_pure (by rfl) (fun w => (by go_simp; try with_reducible rfl))) ?_; simp only [Act.put, List.setIfInBounds_toArray, List.set_cons_zero, List.set_cons_succ]; refine RS_take (i := 22) rfl (by decide +kernel) (fun _ _ _ h => h) (by first | (intro x hx; (repeat (first | exact hx | apply List.mem_cons_of_mem)); done) | ((repeat (refine List.forall_mem_cons.2 ⟨(by (repeat (first | assumption | (with_reducible exact List.mem_cons_self) | apply List.mem_cons_of_mem)); first | done | fail), ?_⟩)); intro x hx; first | (cases hx; done) | ((repeat (first | exact hx | apply List.mem_cons_of_mem)); done))) (stab_pure (by rfl) (fun w => (by go_simp; try with_reducible rfl))) ?_; simp only [Act.put, List.setIfInBounds_toArray, List.set_cons_zero, List.set_cons_succ]; refine RS_take (i := 23) rfl (by decide +kernel) (fun _ _ _ h => h) (by first | (intro x hx; (repeat (first | exact hx | apply List.mem_cons_of_mem)); done) | ((repeat (refine List.forall_mem_cons.2 ⟨(by (repeat (first | assumption | (with_reducible exact List.mem_cons_self) | apply List.mem_cons_of_mem)); first | done | fail), ?_⟩)); intro x hx; first | (cases hx; done) | ((repeat (first | exact hx | apply List.mem_cons_of_mem)); done))) (stab_pure (by rfl) (fun w => (by go_simp; try with_reducible rfl))) ?_; simp only [Act.put, List.setIfInBounds_toArray, List.set_cons_zero, List.set_cons_succ]; refine RS_one (i := 24) (by decide +kernel) rfl (by rfl) (.inl (by first | (intro x hx; (repeat (first | exact hx | apply List.mem_cons_of_mem)); done) | ((repeat (refine List.forall_mem_cons.2 ⟨(by (repeat (first | assumption | (with_reducible exact List.mem_cons_self) | apply List.mem_cons_of_mem)); first | done | fail), ?_⟩)); intro x hx; first | (cases hx; done) | ((repeat (first | exact hx | apply List.mem_cons_of_mem)); done)))) (fun w K hM0 hK => ?_); refine ws_call (by go_simp; try with_reducible rfl) (HRC.out w hM0 (by (repeat (first | assumption | (with_reducible exact List.mem_cons_self) | apply List.mem_cons_of_mem)); first | done | fail)) (fun r w2 hR => ?_); obtain ⟨B5, cb5, rfl, hM⟩ := hR; refine ⟨_, rfl, hK _ _ _ hM ?_⟩; clear hM hM0 hK K; simp only [Act.put, List.setIfInBounds_toArray, List.set_cons_zero, List.set_cons_succ]; refine RS_one (i := 25) (by decide +kernel) rfl (by rfl) (.inl (by first | (intro x hx; (repeat (first | exact hx | apply List.mem_cons_of_mem)); done) | ((repeat (refine List.forall_mem_cons.2 ⟨(by (repeat (first | assumption | (with_reducible exact List.mem_cons_self) | apply List.mem_cons_of_mem)); first | done | fail), ?_⟩)); intro x hx; first | (cases hx; done) | ((repeat (first | exact hx | apply List.mem_cons_of_mem)); done)))) (fun w K hM0 hK => ?_); refine ws_call (by go_simp; try with_reducible rfl) (same8e (A := P1) (B := B5) (n := xs.length - Ka) (m := Q.length) (c := c1 - Ka) (d := cb5) Q w hM0 (by (repeat (first | assumption | (with_reducible exact List.mem_cons_self) | apply List.mem_cons_of_mem)); first | done | fail) (by (repeat (first | assumption | (with_reducible exact List.mem_cons_self) | apply List.mem_cons_of_mem)); first | done | fail) (by omega) HXL.out rfl rfl rfl) (fun r w2 hR => ?_); obtain ⟨rfl, hM⟩ := hR; refine ⟨_, rfl, hK _ _ _ hM ?_⟩; clear hM hM0 hK K; simp only [Act.put, List.setIfInBounds_toArray, List.set_cons_zero, List.set_cons_succ]; refine RS_take (i := 26) rfl (by decide +kernel) (fun _ _ _ h => h) (by first | (intro x hx; (repeat (first | exact hx | apply List.mem_cons_of_mem)); done) | ((repeat (refine List.forall_mem_cons.2 ⟨(by (repeat (first | assumption | (with_reducible exact List.mem_cons_self) | apply List.mem_cons_of_mem)); first | done | fail), ?_⟩)); intro x hx; first | (cases hx; done) | ((repeat (first | exact hx | apply List.mem_cons_of_mem)); done))) (stab_pure (by rfl) (fun w => (by go_simp; try with_reducible rfl))) ?_; simp only [Act.put, List.setIfInBounds_toArray, List.set_cons_zero, List.set_cons_succ]; refine RS_take (i := 27) rfl (by decide +kernel) (fun _ _ _ h => h) (by first | (intro x hx; (repeat (first | exact hx | apply List.mem_cons_of_mem)); done) | ((repeat (refine List.forall_mem_cons.2 ⟨(by (repeat (first | assumption | (with_reducible exact List.mem_cons_self) | apply List.mem_cons_of_mem)); first | done | fail), ?_⟩)); intro x hx; first | (cases hx; done) | ((repeat (first | exact hx | apply List.mem_cons_of_mem)); done))) (stab_pure (by rfl) (fun w => (by go_simp; try with_reducible rfl))) ?_; simp only [Act.put, List.setIfInBounds_toArray, List.set_cons_zero, List.set_cons_succ]; refine RS_done (by decide +kernel) (.inl (by first | (intro x hx; (repeat (first | exact hx | apply List.mem_cons_of_mem)); done) | ((repeat (refine List.forall_mem_cons.2 ⟨(by (repeat (first | assumption | (with_reducible exact List.mem_cons_self) | apply List.mem_cons_of_mem)); first | done | fail), ?_⟩)); intro x hx; first | (cases hx; done) | ((repeat (first | exact hx | apply List.mem_cons_of_mem)); done)))) (fun w hM => ?_))
        go_wp2_with (first | (first | (refine BigFrame.wpList_want (by rfl) fun K hK => ws_rowload rfl rfl (by first | (apply Star.row hM; (repeat (first | assumption | (with_reducible exact List.mem_cons_self) | apply List.mem_cons_of_mem)); done) | (apply Star.own hM; (repeat (first | assumption | (with_reducible exact List.mem_cons_self) | apply List.mem_cons_of_mem)); done) | (apply Star.arr hM; (focus ((repeat (first | assumption | (with_reducible exact List.mem_cons_self) | apply List.mem_cons_of_mem)); done)); assumption)) (by assumption) (by kernel_rfl) (hK _ _ ?_); clear hK K) | fail))
        go_roundw
        case rel => exact ⟨i, j + 1, d1.length + left, left, by omega, by omega, rfl, by go_num, by go_num, rfl, (by show _ = _; rw [D1.out, hL.out]), hR, hM.sel (by repeat (first | (with_reducible exact Sel.refl) | (with_reducible exact Take.head) | (with_reducible apply Take.tail) | (with_reducible apply Sel.cons) | (with_reducible apply Sel.drop)))⟩
        case measure => simp [intOf]
      · rw [e1, e2]
        by_cases heq : left = right
        · subst heq
          by_cases h0 : left = 0
          · subst h0
            go_wp2_with (first | (first | (refine BigFrame.wpList_want (by rfl) fun K hK => ws_rowload rfl rfl (by first | (apply Star.row hM; (repeat (first | assumption | (with_reducible exact List.mem_cons_self) | apply List.mem_cons_of_mem)); done) | (apply Star.own hM; (repeat (first | assumption | (with_reducible exact List.mem_cons_self) | apply List.mem_cons_of_mem)); done) | (apply Star.arr hM; (focus ((repeat (first | assumption | (with_reducible exact List.mem_cons_self) | apply List.mem_cons_of_mem)); done)); assumption)) (by assumption) (by kernel_rfl) (hK _ _ ?_); clear hK K) | fail))
            go_roundw
            case rel => exact ⟨i, j + 1, d1.length + 0, 0, by omega, by omega, rfl, by go_num, by go_num, rfl, (by show _ = _; rw [D1.out, hL.out]), hR, hM.sel (by repeat (first | (with_reducible exact Sel.refl) | (with_reducible exact Take.head) | (with_reducible apply Take.tail) | (with_reducible apply Sel.cons) | (with_reducible apply Sel.drop)))⟩
            case measure => simp [intOf]
          · have f3 : (0 : Int) < (left : Int) := by omega
            have f4 : ¬ ((left : Int) ≤ (s.length : Int)) := by omega
            go_wp2_with (first | (first | (refine BigFrame.wpList_want (by rfl) fun K hK => ws_rowload rfl rfl (by first | (apply Star.row hM; (repeat (first | assumption | (with_reducible exact List.mem_cons_self) | apply List.mem_cons_of_mem)); done) | (apply Star.own hM; (repeat (first | assumption | (with_reducible exact List.mem_cons_self) | apply List.mem_cons_of_mem)); done) | (apply Star.arr hM; (focus ((repeat (first | assumption | (with_reducible exact List.mem_cons_self) | apply List.mem_cons_of_mem)); done)); assumption)) (by assumption) (by kernel_rfl) (hK _ _ ?_); clear hK K) | fail))
            go_roundw
            case rel => exact ⟨i, j + 1, d1.length + left, left, by omega, by omega, rfl, by go_num, by go_num, rfl, (by show _ = _; rw [D1.out, hL.out]), hR, hM.sel (by repeat (first | (with_reducible exact Sel.refl) | (with_reducible exact Take.head) | (with_reducible apply Take.tail) | (with_reducible apply Sel.cons) | (with_reducible apply Sel.drop)))⟩
            case measure => simp [intOf]
        · have f3 : ¬ ((left : Int) = (right : Int)) := by omega
          by_cases hlr : left ≤ right
          · have f4 : (left : Int) ≤ (right : Int) := by omega
            go_wp2_with (first | (first | (refine BigFrame.wpList_want (by rfl) fun K hK => ws_rowload rfl rfl (by first | (apply Star.row hM; (repeat (first | assumption | (with_reducible exact List.mem_cons_self) | apply List.mem_cons_of_mem)); done) | (apply Star.own hM; (repeat (first | assumption | (with_reducible exact List.mem_cons_self) | apply List.mem_cons_of_mem)); done) | (apply Star.arr hM; (focus ((repeat (first | assumption | (with_reducible exact List.mem_cons_self) | apply List.mem_cons_of_mem)); done)); assumption)) (by assumption) (by kernel_rfl) (hK _ _ ?_); clear hK K) | fail))
            go_roundw
            case rel => exact ⟨i, j + 1, d1.length + left, right, by omega, by omega, rfl, by go_num, by go_num, rfl, (by show _ = _; rw [D1.out, hL.out]), hR, hM.sel (by repeat (first | (with_reducible exact Sel.refl) | (with_reducible exact Take.head) | (with_reducible apply Take.tail) | (with_reducible apply Sel.cons) | (with_reducible apply Sel.drop)))⟩
            case measure => simp [intOf]
          · have f4 : ¬ ((left : Int) ≤ (right : Int)) := by omega
            go_wp2_with (first | (first | (refine BigFrame.wpList_want (by rfl) fun K hK => ws_rowload rfl rfl (by first | (apply Star.row hM; (repeat (first | assumption | (with_reducible exact List.mem_cons_self) | apply List.mem_cons_of_mem)); done) | (apply Star.own hM; (repeat (first | assumption | (with_reducible exact List.mem_cons_self) | apply List.mem_cons_of_mem)); done) | (apply Star.arr hM; (focus ((repeat (first | assumption | (with_reducible exact List.mem_cons_self) | apply List.mem_cons_of_mem)); done)); assumption)) (by assumption) (by kernel_rfl) (hK _ _ ?_); clear hK K) | fail))
            go_roundw
            case rel => exact ⟨i + 1, j, left, d2.length + right, by omega, by omega, by go_num, rfl, rfl, by go_num, hL, (by show _ = _; rw [D2.out, hR.out]), hM.sel (by repeat (first | (with_reducible exact Sel.refl) | (with_reducible exact Take.head) | (with_reducible apply Take.tail) | (with_reducible apply Sel.cons) | (with_reducible apply Sel.drop)))⟩
            case measure => simp [intOf]
    · by_cases hk0 : k = 0
      · subst hk0
        go_wp2
        go_ret
        exact ⟨rfl, hM.sel (by repeat (first | (with_reducible exact Sel.refl) | (with_reducible exact Take.head) | (with_reducible apply Take.tail) | (with_reducible apply Sel.cons) | (with_reducible apply Sel.drop)))⟩
      · obtain rfl : l = 0 := by omega
        have f1 : (1 : Int) ≤ (k : Int) := by omega
        have f2 : (0 : Int) ≤ (k : Int) - 1 := by omega
        go_wp2
        go_ret
        exact ⟨rfl, hM.sel (by repeat (first | (with_reducible exact Sel.refl) | (with_reducible exact Take.head) | (with_reducible apply Take.tail) | (with_reducible apply Sel.cons) | (with_reducible apply Sel.drop)))⟩
end Go.Proofs.Ythjceppddmecdaa
