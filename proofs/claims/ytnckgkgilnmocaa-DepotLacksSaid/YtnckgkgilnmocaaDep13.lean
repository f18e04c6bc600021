/- What the laws share, part 13 (BkO, BlP, BlA, BrA, DpA, DpB, DpC, DpM). No condition but those that each theorem names. -/
import Derived.Test.YtnckgkgilnmocaaDep12
import Derived.Test.YtnckgkgilnmocaaDep3
import Derived.Test.YtnckgkgilnmocaaDep7
set_option linter.unusedSimpArgs false
set_option linter.unusedVariables false
namespace Go.Proofs.Ytnckgkgilnmocaa
open Go.RowKit
attribute [local go_sem] extract_mid extract_drop bget bsize wrap64_u8 i64_u8 u64_u8 bappend
/-- What a sector says of a turn. -/
def Hd (s : List UInt8) (v : Nat) : Prop := (v = 0 ∧ s = zs64) ∨ (1 ≤ v ∧ s = pad64 (headT v))
structure OpenPre (D : Dsk) (h t : Nat) (rs : List Rc) : Prop where
  ok : D.ok
  armed : D.armed = false
  half : HalfOk D h
  most : t + 1 ≤ 1000000
  heads : ∃ v0 v1, Hd (D.nw 0) v0 ∧ Hd (D.nw 1) v1 ∧ max v0 v1 = t
  good : ∀ r ∈ rs, rcGood r
  fits : tot rs ≤ h
  emp : t = 0 → rs = []
  lay : t ≠ 0 → lies D.nw (frT h t) (seedT t) rs
  ends : t ≠ 0 → tot rs = h ∨ D.nw (frT h t + tot rs) = zs64
theorem RwPost.read {D D1 E : Dsk} {h u : Nat} {rs : List Rc} (p : RwPost D1 E h u rs) (r : RPost D D1) : RwPost D E h u rs where
  dk := by have := p.dk; rwa [r.sure] at this
  out i h1 h2 := by rw [p.out i h1 h2, r.nw]
  head := p.head
  lies := p.lies
  zero := p.zero
  su := p.su
  l := p.l
theorem RPost.trans {D D1 D2 : Dsk} (a : RPost D D1) (b : RPost D1 D2) : RPost D D2 := ⟨b.ok, b.sure.trans a.sure, b.armed.trans a.armed, fun i => (b.nw i).trans (a.nw i), fun i => (b.l i).trans (a.l i)⟩
section
variable {F L R : List SProp} {a : DA} {D : Dsk}
theorem parseT {s : List UInt8} {v : Nat} (h : Hd s v) (hv : v ≤ 1000000) (w : World) (hM : Star L w) : Calls Try.prog 43 #[.string ⟨s.toArray⟩] w fun r w' => r = .returned (.int .i64 (v : Int)) ∧ Star L w' := by
  rcases h with ⟨rfl, rfl⟩ | ⟨h1, rfl⟩
  · exact parse_no w hM
  · exact parse_ok h1 hv w hM
/-- The result of Open. -/
def OpenR (F : List SProp) (a : DA) (D : Dsk) (h u : Nat) (rs : List Rc) (r : Ending) (w' : World) : Prop := ∃ b D' A c g, Hid (RwPost D D' h u rs) ∧ r = .returned (.tuple #[bptr b, .slice A rs.length c, .int .i64 0]) ∧ Star (rowE 3 A rs.length (rvs (ats (frT h u) rs)) :: bkc b a u (esum (seedT u) rs) (frT h u + tot rs) (.map (some g)) :: pmE g (pms (frT h u) (seedT u) rs).reverse :: diskE a D' :: F) w'
set_option maxRecDepth 100000 in
set_option maxHeartbeats 32000000 in
theorem open_b {h t : Nat} {rs : List Rc} (hp : OpenPre D h t rs) (w : World) (hM : Star (diskE a D :: F) w) : Calls Try.prog 14 #[dptr a] w (OpenR F a D h (t + 1) rs) := by
  obtain ⟨v0, v1, hv0, hv1, hmx⟩ := hp.heads
  have hmost := hp.most
  have hH := hp.half
  have hle := hH.le
  have HP := Lib.hid hp
  have HR0 : Hid (∀ (E : Dsk), Hid (RPost D E) → ∀ (L R : List SProp) (w : World), Star L w → Take (diskE a E) L R → Calls Try.prog 42 #[dptr a, .int .i64 0, .int .i64 1] w fun r w' => ∃ D', Hid (RPost D D') ∧ r = .returned (.tuple #[.string ⟨(D.nw 0).toArray⟩, .int .i64 0]) ∧ Star (diskE a D' :: R) w') := fun E p L R w hM hx =>
    (readT 0 1 p.out.ok (p.out.armed.trans hp.armed) (by rw [p.out.sure]; omega) (s := D.nw 0) (by rw [← rdD_rd, rdD_one, p.out.nw]) w hM hx).mono fun r w' ⟨D', q, e, hM⟩ => ⟨D', p.out.trans q.out, e, hM⟩
  have HR1 : Hid (∀ (E : Dsk), Hid (RPost D E) → ∀ (L R : List SProp) (w : World), Star L w → Take (diskE a E) L R → Calls Try.prog 42 #[dptr a, .int .i64 1, .int .i64 1] w fun r w' => ∃ D', Hid (RPost D D') ∧ r = .returned (.tuple #[.string ⟨(D.nw 1).toArray⟩, .int .i64 0]) ∧ Star (diskE a D' :: R) w') := fun E p L R w hM hx =>
    (readT 1 1 p.out.ok (p.out.armed.trans hp.armed) (by rw [p.out.sure]; omega) (s := D.nw 1) (by rw [← rdD_rd, rdD_one, p.out.nw]) w hM hx).mono fun r w' ⟨D', q, e, hM⟩ => ⟨D', p.out.trans q.out, e, hM⟩
  have HP0 : Hid (∀ (L : List SProp) (w : World), Star L w → Calls Try.prog 43 #[.string ⟨(D.nw 0).toArray⟩] w fun r w' => r = .returned (.int .i64 (v0 : Int)) ∧ Star L w') := fun L w hM => parseT hv0 (by omega) w hM
  have HP1 : Hid (∀ (L : List SProp) (w : World), Star L w → Calls Try.prog 43 #[.string ⟨(D.nw 1).toArray⟩] w fun r w' => r = .returned (.int .i64 (v1 : Int)) ∧ Star L w') := fun L w hM => parseT hv1 (by omega) w hM
  generalize D.nw 0 = s0 at HR0 HP0 hv0
  generalize D.nw 1 = s1 at HR1 HP1 hv1
  have HHALF : Hid (∀ (L : List SProp) (b : Nat) (w : World), Star L w → bkc b a 0 [] 0 (.map none) ∈ L → diskE a D ∈ L → Calls Try.prog 41 #[bptr b] w fun r w' => r = .returned (.int .i64 (h : Int)) ∧ Star L w') := fun L b w hM hb hd => halfT hH w hM hb hd
  have HBEG : Hid (∀ (E : Dsk), Hid (RPost D E) → ∀ (L R : List SProp) (b : Nat) (w : World), Star L w → Take (bkc b a 0 [] 0 (.map none)) L R → diskE a E ∈ R → Calls Try.prog 44 #[bptr b, .int .i64 (t : Int)] w fun r w' => r = .returned (.tuple #[]) ∧ ∃ g, Star (bkc b a t (seedT t) (frT h t) (.map (some g)) :: mapE Try.prog 3 g [] :: R) w') := fun E p L R b w hM hx hd => begin_b (hH.same (by rw [p.out.sure])) (by omega) w hM hx hd
  have hh1 : ¬ ((h : Int) < 1) := by omega
  have hm0 : (if (0 : Int) < (v0 : Int) then (v0 : Int) else 0) = (v0 : Int) := by split <;> omega
  have hm0b : (if 0 < v0 then (v0 : Int) else 0) = (v0 : Int) := by split <;> omega
  have hm1 : (if (v0 : Int) < (v1 : Int) then (v1 : Int) else (v0 : Int)) = (t : Int) := by split <;> omega
  have hm1b : (if v0 < v1 then (v1 : Int) else (v0 : Int)) = (t : Int) := by split <;> omega
  have hm1c : max (v0 : Int) (v1 : Int) = (t : Int) := by omega
  have hm0c : max (0 : Int) (v0 : Int) = (v0 : Int) := by omega
  have HMX := Lib.hid hmx
  have hh4 : h ≤ 40000 := hle.2.2
  clear hp hv0 hv1 hmx hle hH
  have tok1 : True := trivial
  go_enter Try.func14, Try.ntmps14
  go_wp2_with (first | (first | ((with_reducible refine at_box' ?_); (have hM0 := hM; clear hM; refine BigFrame.wpList_want (by rfl) fun K hK => ws_box hM0 rfl rfl (cs := bkC a 0 [] 0 (.map none)) rfl (fun b w hM => hK _ _ ?_); clear hM0 hK K)) | fail) | (go_at_call 41; have hM0 := hM; clear hM; (first | (with_reducible refine (HHALF.out _ b _ hM0 (by (repeat (first | assumption | (with_reducible exact mZ) | apply mS)); first | done | fail) (by (repeat (first | assumption | (with_reducible exact mZ) | apply mS)); first | done | fail)).mono ?_) | fail); clear hM0; rintro _ w ⟨rfl, hM⟩))
  go_loopw [6, 20] (fun tv i wr => ∃ (j tt : Nat) (E : Dsk), j ≤ 2 ∧ i = .int .i64 j ∧ tv = .int .i64 tt ∧ Hid ((j = 0 ∧ tt = 0) ∨ (j = 1 ∧ tt = v0) ∨ (j = 2 ∧ tt = t)) ∧ Hid (RPost D E) ∧ Star (bkc b a 0 [] 0 (.map none) :: diskE a E :: F) wr) (fun _ i _ => 2 - (intOf i).toNat)
  case atStart => exact ⟨0, 0, D, by omega, rfl, rfl, .inl ⟨rfl, rfl⟩, ⟨HP.out.ok, rfl, rfl, fun _ => rfl, fun _ => rfl⟩, hM⟩
  case round =>
    clear hM
    obtain ⟨j, tt, E, hj, rfl, rfl, hjt, hE, hM⟩ := hrel
    obtain ⟨rfl, rfl⟩ | ⟨rfl, rfl⟩ | ⟨rfl, rfl⟩ := hjt.out
    · go_wp2_with (first | (go_at_call 42; have hM0 := hM; clear hM; (first | (with_reducible refine (HR0.out E hE _ _ _ hM0 (by (repeat (first | (with_reducible exact Take.head) | apply Take.tail)); first | done | fail)).mono ?_) | fail); clear hM0; rintro _ w ⟨E1, hE1, rfl, hM⟩) | (go_at_call 43; have hM0 := hM; clear hM; (first | (with_reducible refine (HP0.out _ _ hM0).mono ?_) | fail); clear hM0; rintro _ w ⟨rfl, hM⟩))
      go_roundw
      case rel => exact ⟨1, v0, E1, by omega, by go_num, rfl, .inr (.inl ⟨rfl, rfl⟩), hE1, hM.sel (by repeat (first | (with_reducible exact Sel.refl) | (with_reducible exact Take.head) | (with_reducible apply Take.tail) | (with_reducible apply Sel.cons) | (with_reducible apply Sel.drop)))⟩
      case measure => simp [intOf]
    · go_wp2_with (first | (go_at_call 42; have hM0 := hM; clear hM; (first | (with_reducible refine (HR1.out E hE _ _ _ hM0 (by (repeat (first | (with_reducible exact Take.head) | apply Take.tail)); first | done | fail)).mono ?_) | fail); clear hM0; rintro _ w ⟨E1, hE1, rfl, hM⟩) | (go_at_call 43; have hM0 := hM; clear hM; (first | (with_reducible refine (HP1.out _ _ hM0).mono ?_) | fail); clear hM0; rintro _ w ⟨rfl, hM⟩))
      go_roundw
      case rel => exact ⟨2, t, E1, by omega, by go_num, rfl, .inr (.inr ⟨rfl, rfl⟩), hE1, hM.sel (by repeat (first | (with_reducible exact Sel.refl) | (with_reducible exact Take.head) | (with_reducible apply Take.tail) | (with_reducible apply Sel.cons) | (with_reducible apply Sel.drop)))⟩
      case measure => simp [intOf]
    · rcases Nat.eq_zero_or_pos tt with h0 | h0
      · subst h0
        obtain rfl : rs = [] := HP.out.emp rfl
        have HRW : Hid (∀ (g0 : Nat) (L R1 R2 : List SProp) (b : Nat) (w : World), Star L w → Take (bkc b a 0 (seedT 0) (frT h 0) (.map (some g0))) L R1 → Take (diskE a E) R1 R2 → Calls Try.prog 46 #[bptr b, .slice none 0 0] w fun r w' => ∃ D' A' c' g, Hid (RwPost D D' h 1 []) ∧ r = .returned (.tuple #[.slice A' 0 c', .int .i64 0]) ∧ Star (rowE 3 A' 0 (rvs (ats (frT h 1) [])) :: bkc b a 1 (esum (seedT 1) []) (frT h 1 + tot []) (.map (some g)) :: pmE g (pms (frT h 1) (seedT 1) []).reverse :: diskE a D' :: R2) w') := fun g0 L R1 R2 b w hM h1 h2 => by
          have hr := (hM.pull2b h1 h2).nilrow 3
          have hM2 : Star (bkc b a 0 (seedT 0) (frT h 0) (.map (some g0)) :: diskE a E :: rowE 3 none 0 [] :: R2) w := hr.sel (by repeat (first | (with_reducible exact Sel.refl) | (with_reducible exact Take.head) | (with_reducible apply Take.tail) | (with_reducible apply Sel.cons) | (with_reducible apply Sel.drop)))
          refine (rewrite_b (xs := []) hE.out.ok (HP.out.half.same (by rw [hE.out.sure])) (hE.out.armed.trans HP.out.armed) (by omega) (by simp) (by simp [tot]) w hM2 List.mem_cons_self).mono ?_
          rintro r w' ⟨D', A', c', g, q, e, hM⟩
          have hM3 : Star (rowE 3 A' 0 (rvs (ats (frT h 1) [])) :: bkc b a 1 (esum (seedT 1) []) (frT h 1 + tot []) (.map (some g)) :: pmE g (pms (frT h 1) (seedT 1) []).reverse :: diskE a D' :: rowE 3 none 0 [] :: R2) w' := hM
          exact ⟨D', A', c', g, q.out.read hE.out, e, hM3.sel (by repeat (first | (with_reducible exact Sel.refl) | (with_reducible exact Take.head) | (with_reducible apply Take.tail) | (with_reducible apply Sel.cons) | (with_reducible apply Sel.drop)))⟩
        have HBEG0 : Hid (∀ (L R : List SProp) (b : Nat) (w : World), Star L w → Take (bkc b a 0 [] 0 (.map none)) L R → diskE a E ∈ R → Calls Try.prog 44 #[bptr b, .int .i64 0] w fun r w' => r = .returned (.tuple #[]) ∧ ∃ g, Star (bkc b a 0 (seedT 0) (frT h 0) (.map (some g)) :: mapE Try.prog 3 g [] :: R) w') := HBEG.out E hE
        clear HBEG
        go_wp2_with (first | (go_at_call 44; have hM0 := hM; clear hM; (first | (with_reducible refine (HBEG0.out _ _ b _ hM0 (by (repeat (first | (with_reducible exact Take.head) | apply Take.tail)); first | done | fail) (by (repeat (first | assumption | (with_reducible exact mZ) | apply mS)); first | done | fail)).mono ?_) | fail); clear hM0; rintro _ w ⟨rfl, g, hM⟩) | (go_at_call 46; have hM0 := hM; clear hM; (first | (with_reducible refine (HRW.out g _ _ _ b _ hM0 (by (repeat (first | (with_reducible exact Take.head) | apply Take.tail)); first | done | fail) (by (repeat (first | (with_reducible exact Take.head) | apply Take.tail)); first | done | fail)).mono ?_) | fail); clear hM0; rintro _ w ⟨D2, A2, c2, g2, h2, rfl, hM⟩))
        go_ret3
        have hM3 : Star (rowE 3 A2 0 (rvs (ats (frT h 1) [])) :: bkc b a 1 (esum (seedT 1) []) (frT h 1 + tot []) (.map (some g2)) :: pmE g2 (pms (frT h 1) (seedT 1) []).reverse :: diskE a D2 :: F) _ := hM.sel (by repeat (first | (with_reducible exact Sel.refl) | (with_reducible exact Take.head) | (with_reducible apply Take.tail) | (with_reducible apply Sel.cons) | (with_reducible apply Sel.drop)))
        exact ⟨b, D2, A2, c2, g2, h2, rfl, hM3⟩
      · have HSC : Hid (∀ (g0 : Nat) (L R1 R2 : List SProp) (b : Nat) (w : World), Star L w → Take (bkc b a tt (seedT tt) (frT h tt) (.map (some g0))) L R1 → Take (diskE a E) R1 R2 → Calls Try.prog 45 #[bptr b, .int .i64 (tt : Int)] w fun r w' => ∃ D' A c g, Hid (RPost D D') ∧ r = .returned (.tuple #[.slice A rs.length c, .int .i64 0]) ∧ Star (rowE 3 A rs.length (rvs (ats (frT h tt) rs)) :: bkc b a tt (esum (seedT tt) rs) (frT h tt + tot rs) (.map (some g)) :: mapE Try.prog 3 g [] :: diskE a D' :: R2) w') := fun g0 L R1 R2 b w hM h1 h2 => by
          refine (scan_b (rs := rs) hE.out.ok (HP.out.half.same (by rw [hE.out.sure])) (hE.out.armed.trans HP.out.armed) (by omega) HP.out.good (lies_congr (fun i _ _ => (hE.out.nw i).symm) (HP.out.lay (by omega))) HP.out.fits (by rw [hE.out.nw]; exact HP.out.ends (by omega)) w (hM.pull2b h1 h2)).mono ?_
          rintro r w' ⟨D', A', c', g, q, e, hM⟩
          exact ⟨D', A', c', g, hE.out.trans q.out, e, hM⟩
        have HRW : Hid (∀ (E1 : Dsk), Hid (RPost D E1) → ∀ (g0 : Nat) (A : Option Addr) (c : Nat) (L R1 R2 : List SProp) (b : Nat) (w : World), Star L w → Take (bkc b a tt (esum (seedT tt) rs) (frT h tt + tot rs) (.map (some g0))) L R1 → Take (diskE a E1) R1 R2 → rowE 3 A rs.length (rvs (ats (frT h tt) rs)) ∈ R2 → Calls Try.prog 46 #[bptr b, .slice A rs.length c] w fun r w' => ∃ D' A' c' g, Hid (RwPost D D' h (tt + 1) rs) ∧ r = .returned (.tuple #[.slice A' rs.length c', .int .i64 0]) ∧ Star (rowE 3 A' rs.length (rvs (ats (frT h (tt + 1)) rs)) :: bkc b a (tt + 1) (esum (seedT (tt + 1)) rs) (frT h (tt + 1) + tot rs) (.map (some g)) :: pmE g (pms (frT h (tt + 1)) (seedT (tt + 1)) rs).reverse :: diskE a D' :: R2) w') := fun E1 hE1 g0 A c L R1 R2 b w hM h1 h2 hr => by
          have := rewrite_b (c := c) (xs := ats (frT h tt) rs) hE1.out.ok (HP.out.half.same (by rw [hE1.out.sure])) (hE1.out.armed.trans HP.out.armed) hmost (by rw [ats_fst]; exact HP.out.good) (by rw [ats_fst]; exact HP.out.fits) w (hM.pull2b h1 h2) hr
          rw [ats_fst] at this
          refine this.mono ?_
          rintro r w' ⟨D', A', c', g, q, e, hM⟩
          exact ⟨D', A', c', g, q.out.read hE1.out, e, hM⟩
        have h0i : (0 : Int) < (tt : Int) := by omega
        go_wp2_with (first | (go_at_call 44; have hM0 := hM; clear hM; (first | (with_reducible refine (HBEG.out E hE _ _ b _ hM0 (by (repeat (first | (with_reducible exact Take.head) | apply Take.tail)); first | done | fail) (by (repeat (first | assumption | (with_reducible exact mZ) | apply mS)); first | done | fail)).mono ?_) | fail); clear hM0; rintro _ w ⟨rfl, g, hM⟩) | (go_at_call 45; have hM0 := hM; clear hM; (first | (with_reducible refine (HSC.out g _ _ _ b _ hM0 (by (repeat (first | (with_reducible exact Take.head) | apply Take.tail)); first | done | fail) (by (repeat (first | (with_reducible exact Take.head) | apply Take.tail)); first | done | fail)).mono ?_) | fail); clear hM0; rintro _ w ⟨E1, A1, c1, g1, hE1, rfl, hM⟩) | (go_at_call 46; have hM0 := hM; clear hM; (first | (with_reducible refine (HRW.out E1 hE1 g1 A1 c1 _ _ _ b _ hM0 (by (repeat (first | (with_reducible exact Take.head) | apply Take.tail)); first | done | fail) (by (repeat (first | (with_reducible exact Take.head) | apply Take.tail)); first | done | fail) (by (repeat (first | assumption | (with_reducible exact mZ) | apply mS)); first | done | fail)).mono ?_) | fail); clear hM0; rintro _ w ⟨D2, A2, c2, g2, h2, rfl, hM⟩))
        go_ret3
        unfold OpenR
        exact ⟨b, D2, A2, c2, g2, h2, rfl, hM.sel (by repeat (first | (with_reducible exact Sel.refl) | (with_reducible exact Take.head) | (with_reducible apply Take.tail) | (with_reducible apply Sel.cons) | (with_reducible apply Sel.drop)))⟩
end
end Go.Proofs.Ytnckgkgilnmocaa
set_option linter.unusedSimpArgs false
set_option linter.unusedVariables false
namespace Go.Proofs.Ytnckgkgilnmocaa
open Go.RowKit
structure Live (N : Nat) (D : Dsk) (h t m : Nat) (rs : List Rc) : Prop where
  dk : Dk N D
  half : HalfOk D h
  t1 : 1 ≤ t
  head : D.nw (t % 2) = pad64 (headT t)
  other : ∃ v, v < t ∧ Hd (D.nw ((t + 1) % 2)) v
  good : ∀ r ∈ rs, rcGood r
  fits : tot rs ≤ h
  msure : m ≤ tot rs
  lay : lies D.nw (frT h t) (seedT t) rs
  zero : ∀ i, frT h t + tot rs ≤ i → i < frT h t + h → D.nw i = zs64
  loose : ∀ i, D.l i = decide (frT h t + m ≤ i ∧ i < frT h t + tot rs)
  sure : ∀ i, i < N → ¬ (frT h t + m ≤ i ∧ i < frT h t + tot rs) → D.su i = D.nw i
  szero : ∀ i, frT h t + m ≤ i → i < frT h t + h → D.su i = zs64
theorem Live.start {D E : Dsk} {h t : Nat} {rs : List Rc} (P : OpenPre D h t rs) (p : RwPost D E h (t + 1) rs) : Live D.sure.length E h (t + 1) (tot rs) rs where
  dk := p.dk
  half := P.half.same p.dk.len
  t1 := by omega
  head := p.head
  other := by
    obtain ⟨v0, v1, h0, h1, hm⟩ := P.heads
    have hz := fr_ge h (t + 1)
    have e : E.nw ((t + 1 + 1) % 2) = D.nw ((t + 1 + 1) % 2) := p.out _ (by omega) (by omega)
    rw [e]
    rcases Nat.mod_two_eq_zero_or_one (t + 1 + 1) with h2 | h2
    · rw [h2]; exact ⟨v0, by omega, h0⟩
    · rw [h2]; exact ⟨v1, by omega, h1⟩
  good := P.good
  fits := P.fits
  msure := Nat.le_refl _
  lay := p.lies
  zero := p.zero
  loose i := by rw [p.l]; simp
  sure i _ _ := p.su i
  szero i h1 h2 := by rw [p.su]; exact p.zero i h1 h2
theorem Live.append {N : Nat} {E E' : Dsk} {h t m : Nat} {rs : List Rc} {r : Rc} (L : Live N E h t m rs) (hg : rcGood r) (ht : tot rs + rcost r ≤ h) (p : WPost E E' (frT h t + tot rs) (spl (rtxt (esum (seedT t) rs) r) (rcost r))) : Live N E' h t m (rs ++ [r]) := by
  have hz := fr_ge h t
  have htt : tot (rs ++ [r]) = tot rs + rcost r := by rw [tot_app]; simp [tot]
  have hc := bcost_pos r.2.length
  have hcr : 1 ≤ rcost r := hc
  have hms := L.msure
  have hsl := spl_len (rtxt (esum (seedT t) rs) r) (rcost r)
  have hnw : ∀ i, ¬ (frT h t + tot rs ≤ i ∧ i < frT h t + tot rs + rcost r) → E'.nw i = E.nw i := fun i hi => by rw [p.nw, hsl, if_neg hi]
  have hsu : ∀ i, E'.su i = E.su i := fun i => by unfold Dsk.su; rw [p.sure]
  exact {
    dk := L.dk.write p
    half := L.half.same (by rw [p.sure])
    t1 := L.t1
    head := by rw [hnw _ (by omega)]; exact L.head
    other := by rw [hnw _ (by omega)]; exact L.other
    good := fun x hx => by
      rcases List.mem_append.1 hx with hx | hx
      · exact L.good x hx
      · rw [List.mem_singleton.1 hx]; exact hg
    fits := by omega
    msure := by omega
    lay := by
      rw [lies_app]
      refine ⟨lies_congr (fun i h1 h2 => (hnw i (by omega)).symm) L.lay, ?_, trivial⟩
      have hl := rtxt_len hg (esum (seedT t) rs)
      refine rd_spl (rcost_eq hg _) (by omega) fun i hi => ?_
      rw [p.nw, hsl, if_pos ⟨by omega, by omega⟩, Nat.add_sub_cancel_left]
    zero := fun i h1 h2 => by rw [hnw i (by omega)]; exact L.zero i (by omega) h2
    loose := fun i => by
      rw [p.l, hsl, L.loose, htt, Bool.eq_iff_iff]
      simp only [Bool.or_eq_true, decide_eq_true_eq]
      omega
    sure := fun i h1 h2 => by rw [hsu, hnw i (by omega)]; exact L.sure i h1 (by omega)
    szero := fun i h1 h2 => by rw [hsu]; exact L.szero i h1 h2 }
theorem Live.read {N : Nat} {E E' : Dsk} {h t m : Nat} {rs : List Rc} (L : Live N E h t m rs) (p : RPost E E') : Live N E' h t m rs where
  dk := L.dk.read p
  half := L.half.same (by rw [p.sure])
  t1 := L.t1
  head := by rw [p.nw]; exact L.head
  other := by rw [p.nw]; exact L.other
  good := L.good
  fits := L.fits
  msure := L.msure
  lay := lies_congr (fun i _ _ => (p.nw i).symm) L.lay
  zero i h1 h2 := by rw [p.nw]; exact L.zero i h1 h2
  loose i := by rw [p.l]; exact L.loose i
  sure i h1 h2 := by have : E'.su i = E.su i := by unfold Dsk.su; rw [p.sure]
                     rw [this, p.nw]; exact L.sure i h1 h2
  szero i h1 h2 := by have : E'.su i = E.su i := by unfold Dsk.su; rw [p.sure]
                      rw [this]; exact L.szero i h1 h2
theorem heads_of {D : Dsk} {t : Nat} (h1 : 1 ≤ t) (h : D.nw (t % 2) = pad64 (headT t)) (o : ∃ v, v < t ∧ Hd (D.nw ((t + 1) % 2)) v) : ∃ v0 v1, Hd (D.nw 0) v0 ∧ Hd (D.nw 1) v1 ∧ max v0 v1 = t := by
  obtain ⟨v, hv, ho⟩ := o
  rcases Nat.mod_two_eq_zero_or_one t with h2 | h2
  · rw [h2] at h
    rw [show (t + 1) % 2 = 1 by omega] at ho
    exact ⟨t, v, .inr ⟨h1, h⟩, ho, by omega⟩
  · rw [h2] at h
    rw [show (t + 1) % 2 = 0 by omega] at ho
    exact ⟨v, t, ho, .inr ⟨h1, h⟩, by omega⟩
theorem Live.pre {N : Nat} {D : Dsk} {h t m : Nat} {rs : List Rc} (L : Live N D h t m rs) (ht : t + 1 ≤ 1000000) : OpenPre D h t rs where
  ok := L.dk.ok
  armed := L.dk.armed
  half := L.half
  most := ht
  heads := heads_of L.t1 L.head L.other
  good := L.good
  fits := L.fits
  emp h0 := by have := L.t1; omega
  lay _ := L.lay
  ends _ := by
    by_cases e : tot rs = h
    · exact .inl e
    · exact .inr (L.zero _ (Nat.le_refl _) (by have := L.fits; omega))
/-- A new disk. -/
theorem NPost.pre {D : Dsk} {N : Nat} (p : NPost D N) (h1 : 4 ≤ N) (h2 : N ≤ 65536) : OpenPre D ((N - 2) / 2) 0 [] where
  ok := p.ok
  armed := p.armed
  half := ⟨by rw [p.len]; exact h1, by rw [p.len]; exact h2, by rw [p.len]⟩
  most := by omega
  heads := ⟨0, 0, .inl ⟨rfl, p.nw 0 (by omega)⟩, .inl ⟨rfl, p.nw 1 (by omega)⟩, rfl⟩
  good r hr := by cases hr
  fits := Nat.zero_le _
  emp _ := rfl
  lay h := absurd rfl h
  ends h := absurd rfl h
end Go.Proofs.Ytnckgkgilnmocaa
set_option linter.unusedSimpArgs false
set_option linter.unusedVariables false
namespace Go.Proofs.Ytnckgkgilnmocaa
open Go.RowKit
attribute [local go_sem] extract_mid extract_drop bget bsize wrap64_u8 i64_u8 u64_u8 bappend
/-- Where a book lies. -/
structure BA where
  b : Nat
  g : Nat
  a : DA
/-- A book under way, as one part. -/
def bookE (B : BA) (D : Dsk) (t : Nat) (h : Nat) (rs : List Rc) : SProp := joinE [bkc B.b B.a t (esum (seedT t) rs) (frT h t + tot rs) (.map (some B.g)), pmE B.g (pms (frT h t) (seedT t) rs).reverse, diskE B.a D]
theorem Star.bopen {B : BA} {D : Dsk} {t h : Nat} {rs : List Rc} {L : List SProp} {w : World} (H : Star (bookE B D t h rs :: L) w) : Star (bkc B.b B.a t (esum (seedT t) rs) (frT h t + tot rs) (.map (some B.g)) :: pmE B.g (pms (frT h t) (seedT t) rs).reverse :: diskE B.a D :: L) w := H.openL
theorem Star.bjoin {B : BA} {D : Dsk} {t h : Nat} {rs : List Rc} {L : List SProp} {w : World} (H : Star (bkc B.b B.a t (esum (seedT t) rs) (frT h t + tot rs) (.map (some B.g)) :: pmE B.g (pms (frT h t) (seedT t) rs).reverse :: diskE B.a D :: L) w) : Star (bookE B D t h rs :: L) w :=
  Star.joinL (l := [bkc B.b B.a t (esum (seedT t) rs) (frT h t + tot rs) (.map (some B.g)), pmE B.g (pms (frT h t) (seedT t) rs).reverse, diskE B.a D]) H (by
    intro x hx
    simp only [List.mem_cons, List.not_mem_nil, or_false] at hx
    rcases hx with rfl | rfl | rfl <;> rfl)
section
variable {L R F : List SProp} {B : BA} {N h t m : Nat} {D : Dsk} {rs : List Rc}
/-- A book is opened. -/
def OpenB (F : List SProp) (a : DA) (N h u : Nat) (rs : List Rc) (r : Ending) (w' : World) : Prop := ∃ (B : BA) (D' : Dsk) (A : Option Addr) (c : Nat), B.a = a ∧ Hid (Live N D' h u (tot rs) rs) ∧ r = .returned (.tuple #[bptr B.b, .slice A rs.length c, .int .i64 0]) ∧ Star (rowE 3 A rs.length (rvs (ats (frT h u) rs)) :: bookE B D' u h rs :: F) w'
theorem open_u {a : DA} (P : OpenPre D h t rs) (hN : D.sure.length = N) (w : World) (hM : Star L w) (hx : Take (diskE a D) L R) : Calls Try.prog 14 #[dptr a] w (OpenB R a N h (t + 1) rs) := by
  refine (open_b P w (hM.take hx)).mono ?_
  rintro r w' ⟨b, D', A, c, g, p, rfl, hM⟩
  subst hN
  refine ⟨⟨b, g, a⟩, D', A, c, rfl, Live.start P p.out, rfl, ?_⟩
  have h2 : Star (bookE ⟨b, g, a⟩ D' (t + 1) h rs :: rowE 3 A rs.length (rvs (ats (frT h (t + 1)) rs)) :: R) w' := Star.bjoin (hM.sel (by repeat (first | (with_reducible exact Sel.refl) | (with_reducible exact Take.head) | (with_reducible apply Take.tail) | (with_reducible apply Sel.cons) | (with_reducible apply Sel.drop))))
  exact h2.sel (by repeat (first | (with_reducible exact Sel.refl) | (with_reducible exact Take.head) | (with_reducible apply Take.tail) | (with_reducible apply Sel.cons) | (with_reducible apply Sel.drop)))
theorem left_u (V : Hid (Live N D h t m rs)) (ht : t ≤ 1000000) (w : World) (hM : Star L w) (hx : bookE B D t h rs ∈ L) : Calls Try.prog 20 #[bptr B.b] w fun r w' => r = .returned (.int .i64 ((h - tot rs : Nat) : Int)) ∧ Star L w' :=
  hM.stays hx fun R hR => by
    have hf := V.out.fits
    refine (left_b (e := frT h t + tot rs) V.out.half ht (by omega) w hR.bopen List.mem_cons_self (List.mem_cons_of_mem _ (List.mem_cons_of_mem _ List.mem_cons_self))).mono ?_
    rintro r w' ⟨rfl, hM⟩
    exact ⟨by rw [show frT h t + h - (frT h t + tot rs) = h - tot rs by omega], hM.bjoin⟩
theorem append_u {k : Nat} {d : List UInt8} (V : Hid (Live N D h t m rs)) (hg : rcGood (k, d)) (ht : t ≤ 1000000) (hf : tot rs + bcost d.length ≤ h) (w : World) (hM : Star L w) (hx : Take (bookE B D t h rs) L R) : Calls Try.prog 12 #[bptr B.b, .int .i64 (k : Int), .string ⟨d.toArray⟩] w fun r w' => ∃ D', Hid (Live N D' h t m (rs ++ [(k, d)])) ∧ r = .returned (.tuple #[.agg (rcC k d (frT h t + tot rs)), .int .i64 0]) ∧ Star (bookE B D' t h (rs ++ [(k, d)]) :: R) w' := by
  have V := V.out
  refine (append_b hg V.dk.ok V.half V.dk.armed ht (esum_len (seedT_len t) rs) (by omega) (fun x hx => by have := (pms_lt x (List.mem_reverse.1 hx)).2; omega) w (hM.take hx).bopen).mono ?_
  rintro r w' ⟨D', p, rfl, hM⟩
  refine ⟨D', V.append hg hf p.out, rfl, Star.bjoin ?_⟩
  rw [esum_app, pms_app, List.reverse_append, tot_app, show tot [(k, d)] = bcost d.length by simp [tot], ← Nat.add_assoc]
  exact hM
theorem get_u {k at_ : Nat} {q : List UInt8} {d : List UInt8} {pre post : List Rc} (V : Hid (Live N D h t m rs)) (ht : t ≤ 1000000) (hrs : rs = pre ++ (k, d) :: post) (ha : at_ = frT h t + tot pre) (w : World) (hM : Star L w) (hx : Take (bookE B D t h rs) L R) : Calls Try.prog 82 #[bptr B.b, .int .i64 (at_ : Int)] w fun r w' => ∃ D', Hid (Live N D' h t m rs) ∧ r = .returned (.tuple #[.agg (rcC k d at_), .int .i64 0]) ∧ Star (bookE B D' t h rs :: R) w' := by
  have V := V.out
  subst ha
  have hl := V.lay
  rw [hrs] at hl
  obtain ⟨-, ⟨z, hz⟩, -⟩ := lies_app.1 hl
  have hf := V.fits
  have htt : tot rs = tot pre + (rcost (k, d) + tot post) := by rw [hrs, tot_app, tot_cons]
  refine (get_b (r := (k, d)) (V.good _ (by rw [hrs]; simp)) (esum_len (seedT_len t) pre) V.dk.ok V.half V.dk.armed ht (by omega) hz (by rw [List.mem_reverse, hrs, pms_app]; simp [pms]) w (hM.take hx).bopen).mono ?_
  rintro r w' ⟨D', p, rfl, hM⟩
  exact ⟨D', V.read p.out, rfl, Star.bjoin hM⟩
end
end Go.Proofs.Ytnckgkgilnmocaa
set_option linter.unusedSimpArgs false
set_option linter.unusedVariables false
namespace Go.Proofs.Ytnckgkgilnmocaa
open Go.RowKit
attribute [local go_sem] extract_mid extract_drop bget bsize wrap64_u8 i64_u8 u64_u8 bappend
theorem and_i64B (n : Int) (m : Nat) (hm : m ≤ 62) : bits .and .i64 n (2 ^ m - 1 : Nat) = n % ((2 ^ m : Nat) : Int) := by
  have h62 : 2 ^ m ≤ 2 ^ 62 := Nat.pow_le_pow_right (by decide) hm
  have h0 : 0 < 2 ^ m := Nat.pow_pos (by decide)
  have hc : (BitVec.ofInt 64 ((2 ^ m - 1 : Nat) : Int)).toNat = 2 ^ m - 1 := by
    rw [BitVec.ofInt_natCast, BitVec.toNat_ofNat]; exact Nat.mod_eq_of_lt (by omega)
  have key : (BitVec.ofInt 64 n &&& BitVec.ofInt 64 ((2 ^ m - 1 : Nat) : Int)).toNat = (n % ((2 ^ 64 : Nat) : Int)).toNat % 2 ^ m := by
    rw [BitVec.toNat_and, BitVec.toNat_ofInt, hc, Nat.and_two_pow_sub_one_eq_mod]
  show IntKind.i64.wrap ((BitVec.ofInt 64 n &&& BitVec.ofInt 64 ((2 ^ m - 1 : Nat) : Int)).toNat : Nat) = _
  rw [key, IntKind.wrap_i64]
  have hd : ((2 ^ m : Nat) : Int) ∣ ((2 ^ 64 : Nat) : Int) := by
    rw [Int.natCast_dvd_natCast]; exact Nat.pow_dvd_pow 2 (by omega)
  have e1 : (((n % ((2 ^ 64 : Nat) : Int)).toNat % 2 ^ m : Nat) : Int) = n % ((2 ^ m : Nat) : Int) := by
    rw [Int.natCast_emod, Int.toNat_of_nonneg (Int.emod_nonneg _ (by decide)), Int.emod_emod_of_dvd _ hd]
  rw [e1]
  have h1 := Int.emod_nonneg n (show ((2 ^ m : Nat) : Int) ≠ 0 by omega)
  have h2 := Int.emod_lt_of_pos n (show (0 : Int) < ((2 ^ m : Nat) : Int) by omega)
  omega
section
variable {F L R : List SProp}
end
end Go.Proofs.Ytnckgkgilnmocaa
set_option linter.unusedSimpArgs false
set_option linter.unusedVariables false
namespace Go.Proofs.Ytnckgkgilnmocaa
open Go.RowKit
attribute [local go_sem] extract_mid extract_drop bget bsize wrap64_u8 i64_u8 u64_u8 bappend
abbrev dpc (d b gm : Nat) : SProp := cellsE d 70 #[bptr b, .map (some gm)]
/-- Where which object is. -/
def atv (al : List (List UInt8 × Nat)) : List (Value × Value) := al.map fun x => (idv x.1, iv64 x.2)
abbrev amE (gm : Nat) (al : List (List UInt8 × Nat)) : SProp := mapE Try.prog idT gm (atv al)
abbrev al32 (al : List (List UInt8 × Nat)) : Prop := ∀ x ∈ al, x.1.length = 32
theorem idv_inj {x y : List UInt8} (h : idv x = idv y) : x = y := by
  have h1 : (bvs x).toArray = (bvs y).toArray := by injection h
  have h2 : bvs x = bvs y := by simpa using h1
  have h3 : ∀ l m : List UInt8, bvs l = bvs m → l = m := by
    intro l
    induction l with
    | nil => intro m e; cases m with
      | nil => rfl
      | cons a m => simp [bvs] at e
    | cons a l ih => intro m e; cases m with
      | nil => simp [bvs] at e
      | cons b m =>
        simp only [bvs, List.map_cons, List.cons.injEq] at e
        have e1 : (a.toNat : Int) = (b.toNat : Int) := by have := e.1; simp only [bv] at this; injection this
        have e2 : a = b := UInt8.toNat_inj.1 (by omega)
        rw [e2, ih m e.2]
  exact h3 _ _ h2
theorem atv_miss {al : List (List UInt8 × Nat)} {x : List UInt8} (h : x ∉ al.map (·.1)) : ∀ p ∈ atv al, p.1 ≠ idv x := by
  intro p hp e
  obtain ⟨y, hy, rfl⟩ := List.mem_map.1 hp
  exact h (idv_inj e ▸ List.mem_map.2 ⟨y, hy, rfl⟩)
theorem atv_hit {al : List (List UInt8 × Nat)} {x : List UInt8} (h : x ∈ al.map (·.1)) : ∃ at_, (idv x, iv64 at_) ∈ atv al ∧ (x, at_) ∈ al := by
  obtain ⟨y, hy, rfl⟩ := List.mem_map.1 h
  exact ⟨y.2, List.mem_map.2 ⟨y, hy, rfl⟩, hy⟩
theorem zero_intD (w : World) : (zeroValue 3).run Try.prog w = .ok (.int .i64 0) w := by kernel_rfl
section
variable {F L R : List SProp} {d b gm : Nat} {al : List (List UInt8 × Nat)}
set_option maxRecDepth 100000 in
set_option maxHeartbeats 8000000 in
theorem has_d {A : Option Addr} {n c : Nat} {xs : List (List UInt8)} (h32 : ∀ x ∈ xs, x.length = 32) (w : World) (hM : Star L w) (hn : n ≤ 100000) (hd : dpc d b gm ∈ L) (ha : amE gm al ∈ L) (hr : rowE 32 A n (idvs xs) ∈ L) :
    Calls Try.prog 33 #[.pointer (some ⟨d, 0, none⟩), .slice A n c] w fun r w' => r = .returned (.bool (xs.all fun x => decide (x ∈ al.map (·.1)))) ∧ Star L w' := by
  have HLN := Lib.hid (idvs_row (hM.row hr) h32)
  have H32 := Lib.hid h32
  clear h32
  go_enter Try.func33, Try.ntmps33
  go_wp2_with fail
  go_loopw [11] (fun i wr => ∃ (j : Nat), j ≤ n ∧ i = .int .i64 j ∧ Hid (∀ x ∈ xs.take j, x ∈ al.map (·.1)) ∧ Star L wr) (fun i _ => n - (intOf i).toNat)
  case atStart => exact ⟨0, Nat.zero_le _, rfl, (fun x hx => by cases hx), hM⟩
  case round =>
    clear hM
    obtain ⟨j, hj, rfl, hin, hM⟩ := hrel
    by_cases hlt : j < n
    · obtain ⟨ad, x, rfl, hc, hgx, hta⟩ := Rd.elems (f := bvs) (hM.row hr) (fun x hx => by rw [bvs_len, H32.out x hx]) (by omega) hlt
      have HX := Lib.hid (H32.out x (List.mem_of_getElem? hgx))
      obtain ⟨kl, hkl⟩ := id_key HX.out
      have HK := Lib.hid hkl
      have HTA := Lib.hid hta
      have HGX := Lib.hid hgx
      clear hkl hta hgx
      by_cases hx : x ∈ al.map (·.1)
      · obtain ⟨at_, hh, -⟩ := atv_hit hx
        have HH := Lib.hid hh
        have HXI := Lib.hid hx
        clear hx hh
        go_wp2_with (first | (refine wpList_plain rfl fun K hK => ws_load_at rfl rfl (bvs x) hc (n := 32) (by rw [bvs_len]; exact HX.out) (by kernel_rfl) (hK _ _ ?_); clear hK K) | (first | ((with_reducible refine at_alloc' ?_); (have hM0 := hM; clear hM; refine BigFrame.wpList_want (by rfl) fun K hK => ws_alloc hM0 (t := 73) rfl (bvs z32).toArray info_idB (fun g6 w hM => hK _ _ ?_); clear hM0 hK K)) | fail) | (first | ((with_reducible refine at_store' ?_); (have hM0 := hM; clear hM; refine BigFrame.wpList_want (by rfl) fun K hK => ws_store hM0 rfl rfl rfl (by (repeat (first | (with_reducible exact Take.head) | apply Take.tail)); first | done | fail) (n := 32) (by simp [bvs_len, HX.out]) (by simp [bvs_len, z32_len]) (by kernel_rfl) (by simpa using bvs_oneCell x) (fun w hM => hK _ _ ?_); clear hM0 hK K)) | fail))
        (refine region_RS ([dpc d b gm, amE gm al, cellsE g6 idT (bvs x).toArray]) [] (by kernel_rfl) hM ?_; clear hM; change RS _ _ _ _ _ _ 11 (Array.replicate 11 false) _ _; refine RS_take (i := 0) rfl (by decide +kernel) (fun _ _ _ h => h) (by first | (intro x hx; (repeat (first | exact hx | apply mS)); done) | ((repeat (refine List.forall_mem_cons.2 ⟨(by (repeat (first | assumption | (with_reducible exact mZ) | apply mS)); first | done | fail), ?_⟩)); intro x hx; first | (cases hx; done) | ((repeat (first | exact hx | apply mS)); done))) (stab_pure (by rfl) (fun w => (by go_simp; try with_reducible rfl))) ?_; simp only [Act.put, List.setIfInBounds_toArray, List.set_cons_zero, List.set_cons_succ]; refine RS_take (i := 1) rfl (by decide +kernel) (fun _ _ _ h => h) (by first | (intro x hx; (repeat (first | exact hx | apply mS)); done) | ((repeat (refine List.forall_mem_cons.2 ⟨(by (repeat (first | assumption | (with_reducible exact mZ) | apply mS)); first | done | fail), ?_⟩)); intro x hx; first | (cases hx; done) | ((repeat (first | exact hx | apply mS)); done))) (stab_pure (by rfl) (fun w => (by go_simp; try with_reducible rfl))) ?_; simp only [Act.put, List.setIfInBounds_toArray, List.set_cons_zero, List.set_cons_succ]; refine RS_take (i := 2) rfl (by decide +kernel) (fun _ _ _ h => h) (by first | (intro x hx; (repeat (first | exact hx | apply mS)); done) | ((repeat (refine List.forall_mem_cons.2 ⟨(by (repeat (first | assumption | (with_reducible exact mZ) | apply mS)); first | done | fail), ?_⟩)); intro x hx; first | (cases hx; done) | ((repeat (first | exact hx | apply mS)); done))) (stab_pure (by rfl) (fun w => (by go_simp; try with_reducible rfl))) ?_; simp only [Act.put, List.setIfInBounds_toArray, List.set_cons_zero, List.set_cons_succ]; refine RS_take (i := 3) rfl (by decide +kernel) (fun _ _ _ h => h) (by first | (intro x hx; (repeat (first | exact hx | apply mS)); done) | ((repeat (refine List.forall_mem_cons.2 ⟨(by (repeat (first | assumption | (with_reducible exact mZ) | apply mS)); first | done | fail), ?_⟩)); intro x hx; first | (cases hx; done) | ((repeat (first | exact hx | apply mS)); done))) (stab_read (by rfl) (fun L w hL hM => (by first | exact ex_load1 hM rfl rfl (hL _ (by (repeat (first | assumption | (with_reducible exact mZ) | apply mS)); first | done | fail)) rfl (by kernel_rfl) | exact ex_rowload rfl rfl (hM.row (hL _ (by (repeat (first | assumption | (with_reducible exact mZ) | apply mS)); first | done | fail))) (by assumption) (by kernel_rfl) | exact ex_rowload0 rfl rfl (hM.row (hL _ (by (repeat (first | assumption | (with_reducible exact mZ) | apply mS)); first | done | fail))) (by assumption) (by kernel_rfl)))) ?_; simp only [Act.put, List.setIfInBounds_toArray, List.set_cons_zero, List.set_cons_succ]; refine RS_take (i := 4) rfl (by decide +kernel) (fun _ _ _ h => h) (by first | (intro x hx; (repeat (first | exact hx | apply mS)); done) | ((repeat (refine List.forall_mem_cons.2 ⟨(by (repeat (first | assumption | (with_reducible exact mZ) | apply mS)); first | done | fail), ?_⟩)); intro x hx; first | (cases hx; done) | ((repeat (first | exact hx | apply mS)); done))) (stab_read (by rfl) (fun L w hL hM => (ex_load hM rfl rfl (hL _ (by (repeat (first | assumption | (with_reducible exact mZ) | apply mS)); first | done | fail)) (n := 32) (by simp [bvs_len, HX.out]) (by decide +kernel)))) ?_; simp only [Act.put, List.setIfInBounds_toArray, List.set_cons_zero, List.set_cons_succ]; refine RS_take (i := 5) rfl (by decide +kernel) (fun _ _ _ h => h) (by first | (intro x hx; (repeat (first | exact hx | apply mS)); done) | ((repeat (refine List.forall_mem_cons.2 ⟨(by (repeat (first | assumption | (with_reducible exact mZ) | apply mS)); first | done | fail), ?_⟩)); intro x hx; first | (cases hx; done) | ((repeat (first | exact hx | apply mS)); done))) (stab_read (by rfl) (fun L w hL hM => (ex_hit2 (key := idv x) hM rfl Try.underlying68 rfl rfl (hL _ (by (repeat (first | assumption | (with_reducible exact mZ) | apply mS)); first | done | fail)) keyed_id HK.out HH.out))) ?_; simp only [Act.put, List.setIfInBounds_toArray, List.set_cons_zero, List.set_cons_succ]; refine RS_take (i := 6) rfl (by decide +kernel) (fun _ _ _ h => h) (by first | (intro x hx; (repeat (first | exact hx | apply mS)); done) | ((repeat (refine List.forall_mem_cons.2 ⟨(by (repeat (first | assumption | (with_reducible exact mZ) | apply mS)); first | done | fail), ?_⟩)); intro x hx; first | (cases hx; done) | ((repeat (first | exact hx | apply mS)); done))) (stab_pure (by rfl) (fun w => (by go_simp; try with_reducible rfl))) ?_; simp only [Act.put, List.setIfInBounds_toArray, List.set_cons_zero, List.set_cons_succ]; refine RS_take (i := 7) rfl (by decide +kernel) (fun _ _ _ h => h) (by first | (intro x hx; (repeat (first | exact hx | apply mS)); done) | ((repeat (refine List.forall_mem_cons.2 ⟨(by (repeat (first | assumption | (with_reducible exact mZ) | apply mS)); first | done | fail), ?_⟩)); intro x hx; first | (cases hx; done) | ((repeat (first | exact hx | apply mS)); done))) (stab_pure (by rfl) (fun w => (by go_simp; try with_reducible rfl))) ?_; simp only [Act.put, List.setIfInBounds_toArray, List.set_cons_zero, List.set_cons_succ]; refine RS_take (i := 8) rfl (by decide +kernel) (fun _ _ _ h => h) (by first | (intro x hx; (repeat (first | exact hx | apply mS)); done) | ((repeat (refine List.forall_mem_cons.2 ⟨(by (repeat (first | assumption | (with_reducible exact mZ) | apply mS)); first | done | fail), ?_⟩)); intro x hx; first | (cases hx; done) | ((repeat (first | exact hx | apply mS)); done))) (stab_pure (by rfl) (fun w => (by go_simp; try with_reducible rfl))) ?_; simp only [Act.put, List.setIfInBounds_toArray, List.set_cons_zero, List.set_cons_succ]; refine RS_take (i := 9) rfl (by decide +kernel) (fun _ _ _ h => h) (by first | (intro x hx; (repeat (first | exact hx | apply mS)); done) | ((repeat (refine List.forall_mem_cons.2 ⟨(by (repeat (first | assumption | (with_reducible exact mZ) | apply mS)); first | done | fail), ?_⟩)); intro x hx; first | (cases hx; done) | ((repeat (first | exact hx | apply mS)); done))) (stab_pure (by rfl) (fun w => (by go_simp; try with_reducible rfl))) ?_; simp only [Act.put, List.setIfInBounds_toArray, List.set_cons_zero, List.set_cons_succ]; refine RS_take (i := 10) rfl (by decide +kernel) (fun _ _ _ h => h) (by first | (intro x hx; (repeat (first | exact hx | apply mS)); done) | ((repeat (refine List.forall_mem_cons.2 ⟨(by (repeat (first | assumption | (with_reducible exact mZ) | apply mS)); first | done | fail), ?_⟩)); intro x hx; first | (cases hx; done) | ((repeat (first | exact hx | apply mS)); done))) (stab_pure (by rfl) (fun w => (by go_simp; try with_reducible rfl))) ?_; simp only [Act.put, List.setIfInBounds_toArray, List.set_cons_zero, List.set_cons_succ]; refine RS_done (by decide +kernel) (.inl (by first | (intro x hx; (repeat (first | exact hx | apply mS)); done) | ((repeat (refine List.forall_mem_cons.2 ⟨(by (repeat (first | assumption | (with_reducible exact mZ) | apply mS)); first | done | fail), ?_⟩)); intro x hx; first | (cases hx; done) | ((repeat (first | exact hx | apply mS)); done)))) (fun w hM => ?_))
        go_wp2_with fail
        go_roundw
        case rel => exact ⟨j + 1, by omega, by go_num, (fun y hy => by rw [HTA.out] at hy; rcases List.mem_append.1 hy with hy | hy; exact hin.out y hy; rw [List.mem_singleton.1 hy]; exact HXI.out), hM.sel (by repeat (first | (with_reducible exact Sel.refl) | (with_reducible exact Take.head) | (with_reducible apply Take.tail) | (with_reducible apply Sel.cons) | (with_reducible apply Sel.drop)))⟩
        case measure => simp [intOf]; omega
      · have HMS := Lib.hid (atv_miss hx)
        have HXI := Lib.hid hx
        clear hx
        go_wp2_with (first | (refine wpList_plain rfl fun K hK => ws_load_at rfl rfl (bvs x) hc (n := 32) (by rw [bvs_len]; exact HX.out) (by kernel_rfl) (hK _ _ ?_); clear hK K) | (first | ((with_reducible refine at_alloc' ?_); (have hM0 := hM; clear hM; refine BigFrame.wpList_want (by rfl) fun K hK => ws_alloc hM0 (t := 73) rfl (bvs z32).toArray info_idB (fun g6 w hM => hK _ _ ?_); clear hM0 hK K)) | fail) | (first | ((with_reducible refine at_store' ?_); (have hM0 := hM; clear hM; refine BigFrame.wpList_want (by rfl) fun K hK => ws_store hM0 rfl rfl rfl (by (repeat (first | (with_reducible exact Take.head) | apply Take.tail)); first | done | fail) (n := 32) (by simp [bvs_len, HX.out]) (by simp [bvs_len, z32_len]) (by kernel_rfl) (by simpa using bvs_oneCell x) (fun w hM => hK _ _ ?_); clear hM0 hK K)) | fail))
        (refine region_RS ([dpc d b gm, amE gm al, cellsE g6 idT (bvs x).toArray]) [] (by kernel_rfl) hM ?_; clear hM; change RS _ _ _ _ _ _ 11 (Array.replicate 11 false) _ _; refine RS_take (i := 0) rfl (by decide +kernel) (fun _ _ _ h => h) (by first | (intro x hx; (repeat (first | exact hx | apply mS)); done) | ((repeat (refine List.forall_mem_cons.2 ⟨(by (repeat (first | assumption | (with_reducible exact mZ) | apply mS)); first | done | fail), ?_⟩)); intro x hx; first | (cases hx; done) | ((repeat (first | exact hx | apply mS)); done))) (stab_pure (by rfl) (fun w => (by go_simp; try with_reducible rfl))) ?_; simp only [Act.put, List.setIfInBounds_toArray, List.set_cons_zero, List.set_cons_succ]; refine RS_take (i := 1) rfl (by decide +kernel) (fun _ _ _ h => h) (by first | (intro x hx; (repeat (first | exact hx | apply mS)); done) | ((repeat (refine List.forall_mem_cons.2 ⟨(by (repeat (first | assumption | (with_reducible exact mZ) | apply mS)); first | done | fail), ?_⟩)); intro x hx; first | (cases hx; done) | ((repeat (first | exact hx | apply mS)); done))) (stab_pure (by rfl) (fun w => (by go_simp; try with_reducible rfl))) ?_; simp only [Act.put, List.setIfInBounds_toArray, List.set_cons_zero, List.set_cons_succ]; refine RS_take (i := 2) rfl (by decide +kernel) (fun _ _ _ h => h) (by first | (intro x hx; (repeat (first | exact hx | apply mS)); done) | ((repeat (refine List.forall_mem_cons.2 ⟨(by (repeat (first | assumption | (with_reducible exact mZ) | apply mS)); first | done | fail), ?_⟩)); intro x hx; first | (cases hx; done) | ((repeat (first | exact hx | apply mS)); done))) (stab_pure (by rfl) (fun w => (by go_simp; try with_reducible rfl))) ?_; simp only [Act.put, List.setIfInBounds_toArray, List.set_cons_zero, List.set_cons_succ]; refine RS_take (i := 3) rfl (by decide +kernel) (fun _ _ _ h => h) (by first | (intro x hx; (repeat (first | exact hx | apply mS)); done) | ((repeat (refine List.forall_mem_cons.2 ⟨(by (repeat (first | assumption | (with_reducible exact mZ) | apply mS)); first | done | fail), ?_⟩)); intro x hx; first | (cases hx; done) | ((repeat (first | exact hx | apply mS)); done))) (stab_read (by rfl) (fun L w hL hM => (by first | exact ex_load1 hM rfl rfl (hL _ (by (repeat (first | assumption | (with_reducible exact mZ) | apply mS)); first | done | fail)) rfl (by kernel_rfl) | exact ex_rowload rfl rfl (hM.row (hL _ (by (repeat (first | assumption | (with_reducible exact mZ) | apply mS)); first | done | fail))) (by assumption) (by kernel_rfl) | exact ex_rowload0 rfl rfl (hM.row (hL _ (by (repeat (first | assumption | (with_reducible exact mZ) | apply mS)); first | done | fail))) (by assumption) (by kernel_rfl)))) ?_; simp only [Act.put, List.setIfInBounds_toArray, List.set_cons_zero, List.set_cons_succ]; refine RS_take (i := 4) rfl (by decide +kernel) (fun _ _ _ h => h) (by first | (intro x hx; (repeat (first | exact hx | apply mS)); done) | ((repeat (refine List.forall_mem_cons.2 ⟨(by (repeat (first | assumption | (with_reducible exact mZ) | apply mS)); first | done | fail), ?_⟩)); intro x hx; first | (cases hx; done) | ((repeat (first | exact hx | apply mS)); done))) (stab_read (by rfl) (fun L w hL hM => (ex_load hM rfl rfl (hL _ (by (repeat (first | assumption | (with_reducible exact mZ) | apply mS)); first | done | fail)) (n := 32) (by simp [bvs_len, HX.out]) (by decide +kernel)))) ?_; simp only [Act.put, List.setIfInBounds_toArray, List.set_cons_zero, List.set_cons_succ]; refine RS_take (i := 5) rfl (by decide +kernel) (fun _ _ _ h => h) (by first | (intro x hx; (repeat (first | exact hx | apply mS)); done) | ((repeat (refine List.forall_mem_cons.2 ⟨(by (repeat (first | assumption | (with_reducible exact mZ) | apply mS)); first | done | fail), ?_⟩)); intro x hx; first | (cases hx; done) | ((repeat (first | exact hx | apply mS)); done))) (stab_read (by rfl) (fun L w hL hM => (ex_miss2 (key := idv x) hM rfl Try.underlying68 zero_intD rfl rfl (hL _ (by (repeat (first | assumption | (with_reducible exact mZ) | apply mS)); first | done | fail)) keyed_id HK.out HMS.out))) ?_; simp only [Act.put, List.setIfInBounds_toArray, List.set_cons_zero, List.set_cons_succ]; refine RS_take (i := 6) rfl (by decide +kernel) (fun _ _ _ h => h) (by first | (intro x hx; (repeat (first | exact hx | apply mS)); done) | ((repeat (refine List.forall_mem_cons.2 ⟨(by (repeat (first | assumption | (with_reducible exact mZ) | apply mS)); first | done | fail), ?_⟩)); intro x hx; first | (cases hx; done) | ((repeat (first | exact hx | apply mS)); done))) (stab_pure (by rfl) (fun w => (by go_simp; try with_reducible rfl))) ?_; simp only [Act.put, List.setIfInBounds_toArray, List.set_cons_zero, List.set_cons_succ]; refine RS_take (i := 7) rfl (by decide +kernel) (fun _ _ _ h => h) (by first | (intro x hx; (repeat (first | exact hx | apply mS)); done) | ((repeat (refine List.forall_mem_cons.2 ⟨(by (repeat (first | assumption | (with_reducible exact mZ) | apply mS)); first | done | fail), ?_⟩)); intro x hx; first | (cases hx; done) | ((repeat (first | exact hx | apply mS)); done))) (stab_pure (by rfl) (fun w => (by go_simp; try with_reducible rfl))) ?_; simp only [Act.put, List.setIfInBounds_toArray, List.set_cons_zero, List.set_cons_succ]; refine RS_take (i := 8) rfl (by decide +kernel) (fun _ _ _ h => h) (by first | (intro x hx; (repeat (first | exact hx | apply mS)); done) | ((repeat (refine List.forall_mem_cons.2 ⟨(by (repeat (first | assumption | (with_reducible exact mZ) | apply mS)); first | done | fail), ?_⟩)); intro x hx; first | (cases hx; done) | ((repeat (first | exact hx | apply mS)); done))) (stab_pure (by rfl) (fun w => (by go_simp; try with_reducible rfl))) ?_; simp only [Act.put, List.setIfInBounds_toArray, List.set_cons_zero, List.set_cons_succ]; refine RS_take (i := 9) rfl (by decide +kernel) (fun _ _ _ h => h) (by first | (intro x hx; (repeat (first | exact hx | apply mS)); done) | ((repeat (refine List.forall_mem_cons.2 ⟨(by (repeat (first | assumption | (with_reducible exact mZ) | apply mS)); first | done | fail), ?_⟩)); intro x hx; first | (cases hx; done) | ((repeat (first | exact hx | apply mS)); done))) (stab_pure (by rfl) (fun w => (by go_simp; try with_reducible rfl))) ?_; simp only [Act.put, List.setIfInBounds_toArray, List.set_cons_zero, List.set_cons_succ]; refine RS_take (i := 10) rfl (by decide +kernel) (fun _ _ _ h => h) (by first | (intro x hx; (repeat (first | exact hx | apply mS)); done) | ((repeat (refine List.forall_mem_cons.2 ⟨(by (repeat (first | assumption | (with_reducible exact mZ) | apply mS)); first | done | fail), ?_⟩)); intro x hx; first | (cases hx; done) | ((repeat (first | exact hx | apply mS)); done))) (stab_pure (by rfl) (fun w => (by go_simp; try with_reducible rfl))) ?_; simp only [Act.put, List.setIfInBounds_toArray, List.set_cons_zero, List.set_cons_succ]; refine RS_done (by decide +kernel) (.inl (by first | (intro x hx; (repeat (first | exact hx | apply mS)); done) | ((repeat (refine List.forall_mem_cons.2 ⟨(by (repeat (first | assumption | (with_reducible exact mZ) | apply mS)); first | done | fail), ?_⟩)); intro x hx; first | (cases hx; done) | ((repeat (first | exact hx | apply mS)); done)))) (fun w hM => ?_))
        go_wp2_with fail
        go_ret
        refine ⟨?_, hM.sel (by repeat (first | (with_reducible exact Sel.refl) | (with_reducible exact Take.head) | (with_reducible apply Take.tail) | (with_reducible apply Sel.cons) | (with_reducible apply Sel.drop)))⟩
        have : (xs.all fun x => decide (x ∈ al.map (·.1))) = false := by
          rw [List.all_eq_false]
          exact ⟨x, List.mem_of_getElem? HGX.out, by simpa using HXI.out⟩
        rw [this]
        rfl
    · obtain rfl : n = j := by omega
      go_wp2_with fail
      go_ret
      refine ⟨?_, hM⟩
      have h1 := hin.out
      rw [List.take_of_length_le (by rw [HLN.out]; omega)] at h1
      have : (xs.all fun x => decide (x ∈ al.map (·.1))) = true := by
        rw [List.all_eq_true]
        exact fun x hx => decide_eq_true (h1 x hx)
      rw [this]
      rfl
theorem find_key {al : List (List UInt8 × Nat)} (hnd : (al.map (·.1)).Nodup) {x : List UInt8 × Nat} (hx : x ∈ al) : al.find? (fun y => decide (y.1 = x.1)) = some x := by
  induction al with
  | nil => cases hx
  | cons y l ih =>
    rw [List.map_cons, List.nodup_cons] at hnd
    rcases List.mem_cons.1 hx with rfl | hx
    · rw [List.find?_cons_of_pos (by simp)]
    · have hne : y.1 ≠ x.1 := fun e => hnd.1 (e ▸ List.mem_map.2 ⟨x, hx, rfl⟩)
      rw [List.find?_cons_of_neg (by simpa using hne)]
      exact ih hnd.2 hx
def atF (al : List (List UInt8 × Nat)) (k : List UInt8) : Value := iv64 (((al.find? fun y => decide (y.1 = k)).map (·.2)).getD 0)
theorem atv_enc {al : List (List UInt8 × Nat)} (hnd : (al.map (·.1)).Nodup) : atv al = (al.map (·.1)).map (encI (atF al)) := by
  unfold atv
  rw [List.map_map]
  refine List.map_congr_left fun x hx => ?_
  simp only [Function.comp, encI, atF]
  rw [find_key hnd hx]
  rfl
theorem am_nodup {w : World} (hM : Star L w) (ha : amE gm al ∈ L) : (al.map (·.1)).Nodup := by
  have h1 := hM.map_nodup ha
  unfold atv at h1
  rw [List.map_map] at h1
  have h2 : (fun x : List UInt8 × Nat => idv x.1) = idv ∘ (·.1) := rfl
  have h3 : ((al.map (·.1)).map idv).Nodup := by rw [List.map_map]; exact h1
  exact List.Pairwise.of_map idv (fun a b h e => h (congrArg idv e)) h3
set_option maxRecDepth 100000 in
theorem list_d (h32 : al32 al) (hl : al.length ≤ 12) (w : World) (hM : Star L w) (ha : Take (amE gm al) L R) (hd : dpc d b gm ∈ R) :
    Calls Try.prog 29 #[.pointer (some ⟨d, 0, none⟩)] w fun r w' => ∃ A c xs, xs.Perm (al.map (·.1)) ∧ r = .returned (.slice A al.length c) ∧ Star (rowE 32 A al.length (idvs xs) :: amE gm al :: R) w' := by
  have h1 := hM.take ha
  have hnd := am_nodup h1 List.mem_cons_self
  have he := atv_enc hnd
  have HK : Hid (∀ (w : World), Star (mapE Try.prog idT gm (atv al) :: R) w → Calls Try.prog 57 #[.map (some gm)] w fun r w' => ∃ g, r = .returned (keyF g) ∧ Star (cellsE g mpT #[.map (some gm)] :: mapE Try.prog idT gm (atv al) :: R) w') := fun w hM => keys_id w hM
  have HS : Hid (∀ (g : Nat) (w : World), Star (cellsE g mpT #[.map (some gm)] :: mapE Try.prog idT gm (atv al) :: R) w → Calls Try.prog 56 #[keyF g, cmpF] w fun r w' => ∃ A c xs, xs.Perm (al.map (·.1)) ∧ r = .returned (.slice A al.length c) ∧ Star (rowE 32 A al.length (idvs xs) :: mapE Try.prog idT gm (atv al) :: R) w') := fun g w hM => by
    have hM2 : Star (mapE Try.prog idT gm ((al.map (·.1)).map (encI (atF al))) :: cellsE g mpT #[.map (some gm)] :: R) w := by rw [← he]; exact hM.sel (by repeat (first | (with_reducible exact Sel.refl) | (with_reducible exact Take.head) | (with_reducible apply Take.tail) | (with_reducible apply Sel.cons) | (with_reducible apply Sel.drop)))
    refine (sorted_ids (ks := al.map (·.1)) (fun k hk => ?_) (by rw [List.length_map]; exact hl) w hM2 List.mem_cons_self).mono ?_
    · obtain ⟨x, hx, rfl⟩ := List.mem_map.1 hk
      exact h32 x hx
    · rintro r w' ⟨A, c, xs, hp, e, hM3⟩
      rw [List.length_map] at e hM3
      rw [← he] at hM3
      exact ⟨A, c, xs, hp, e, hM3.sel (by repeat (first | (with_reducible exact Sel.refl) | (with_reducible exact Take.head) | (with_reducible apply Take.tail) | (with_reducible apply Sel.cons) | (with_reducible apply Sel.drop)))⟩
  clear he hnd h32 hl ha hM
  have hM := h1
  clear h1
  go_enter Try.func29, Try.ntmps29
  go_wp2_with (first | (first | ((with_reducible refine at_load' ?_); (refine BigFrame.wpList_want (by rfl) fun K hK => ws_load1 hM rfl rfl (by (repeat (first | assumption | (with_reducible exact mZ) | apply mS)); first | done | fail) (by first | rfl | assumption) (by decide +kernel) (hK _ _ ?_); clear hK K)) | fail) | (go_at_call 57; have hM0 := hM; clear hM; (first | (with_reducible refine (HK.out _ hM0).mono ?_) | fail); clear hM0; rintro _ w ⟨g, rfl, hM⟩) | (go_at_call 56; have hM0 := hM; clear hM; (first | (with_reducible refine (HS.out g _ hM0).mono ?_) | fail); clear hM0; rintro _ w ⟨A, c, xs, hp, rfl, hM⟩))
  go_ret
  exact ⟨A, c, xs, hp, rfl, hM⟩
end
end Go.Proofs.Ytnckgkgilnmocaa
set_option linter.unusedSimpArgs false
set_option linter.unusedVariables false
namespace Go.Proofs.Ytnckgkgilnmocaa
open Go.RowKit
attribute [local go_sem] extract_mid extract_drop bget bsize wrap64_u8 i64_u8 u64_u8 bappend
section
variable {F L R : List SProp}
set_option maxRecDepth 100000 in
set_option maxHeartbeats 8000000 in
theorem record_d {id x : List UInt8} (hid : id.length = 32) (hx : x.length ≤ 100000) (w : World) (hM : Star L w) : Calls Try.prog 55 #[.agg (ocs (1, id, x)).toArray] w fun r w' => r = .returned (.agg (rcC 1 (1 :: x) 0)) ∧ Star L w' := by
  have H33 := Lib.hid (ocs_33 (o := (1, id, x)) hid)
  have H0 := Lib.hid (ocs_0 (1, id, x))
  have HSZ := Lib.hid (ocs_sz (o := (1, id, x)) hid)
  have hn1 : ¬ (9223372036854775807 < 1 + x.length) := by omega
  go_enter Try.func55, Try.ntmps55
  go_wp2_with (first | (first | ((with_reducible refine at_box' ?_); (have hM0 := hM; clear hM; refine BigFrame.wpList_want (by rfl) fun K hK => ws_box hM0 rfl rfl (cs := (ocs (1, id, x)).toArray) rfl (fun g1 w hM => hK _ _ ?_); clear hM0 hK K)) | fail) | (first | ((with_reducible refine at_alloc' ?_); (have hM0 := hM; clear hM; refine BigFrame.wpList_want (by rfl) fun K hK => ws_alloc hM0 (t := 38) rfl rc0 info_rc (fun g2 w hM => hK _ _ ?_); clear hM0 hK K)) | fail) | (first | ((with_reducible refine at_load' ?_); (refine BigFrame.wpList_want (by rfl) fun K hK => ws_load1 hM rfl rfl (by (repeat (first | assumption | (with_reducible exact mZ) | apply mS)); first | done | fail) (by first | exact H0.out | exact H33.out) (by decide +kernel) (hK _ _ ?_); clear hK K)) | fail) | (first | ((with_reducible refine at_slice' ?_); (have hM0 := hM; clear hM; refine BigFrame.wpList_want (by rfl) fun K hK => ws_slice_row hM0 (n := 1) rfl 5 1 (.int .u8 0) [.int .u8 1] Try.underlying84 (by kernel_rfl) rfl (by simp [Value.cells, iv, sv, bv]) (by rfl) (by decide) (cs := bvs [1]) (by rfl) (fun g6 w hM => hK _ _ ?_); clear hM0 hK K)) | fail) | (first | ((with_reducible refine at_convert' ?_); (refine BigFrame.wpList_want (by rfl) fun K hK => ws_string (l := [1]) rfl 5 Try.underlying84 Try.underlying9 Try.underlying5 rfl (by first | (apply Star.row hM; (repeat (first | assumption | (with_reducible exact mZ) | apply mS)); done) | (apply Star.own hM; (repeat (first | assumption | (with_reducible exact mZ) | apply mS)); done) | (apply Star.arr hM; (focus ((repeat (first | assumption | (with_reducible exact mZ) | apply mS)); done)); assumption)) (hK _ _ ?_); clear hK K)) | fail) | (first | ((with_reducible refine at_store' ?_); (have hM0 := hM; clear hM; refine BigFrame.wpList_want (by rfl) fun K hK => ws_store hM0 rfl rfl rfl (by (repeat (first | (with_reducible exact Take.head) | apply Take.tail)); first | done | fail) (n := 3) (by rfl) (by rfl) (by kernel_rfl) (by simp [Value.oneCell']) (fun w hM => hK _ _ ?_); clear hM0 hK K)) | fail))
  replace hM : Star (cellsE g2 38 #[.int .i64 1, .string ⟨(1 :: x).toArray⟩, .int .i64 0] :: L) _ := hM.sel (by repeat (first | (with_reducible exact Sel.refl) | (with_reducible exact Take.head) | (with_reducible apply Take.tail) | (with_reducible apply Sel.cons) | (with_reducible apply Sel.drop)))
  replace hM : Star (cellsE g2 38 (rcC 1 (1 :: x) 0) :: L) _ := hM
  refine bodyPost_ret (results_row (P := Try.prog) (ty := 38) rfl _ _ g2 38 (rcC 1 (1 :: x) 0) 3 rfl (hM.blk (by (repeat (first | assumption | (with_reducible exact mZ) | apply mS)); first | done | fail)) rfl (by decide +kernel)) rfl ?_
  exact ⟨rfl, hM.sel (by repeat (first | (with_reducible exact Sel.refl) | (with_reducible exact Take.head) | (with_reducible apply Take.tail) | (with_reducible apply Sel.cons) | (with_reducible apply Sel.drop)))⟩
set_option maxRecDepth 100000 in
set_option maxHeartbeats 8000000 in
theorem object_d {x : List UInt8} {at_ : Nat} (hx : x.length ≤ 100000) (w : World) (hM : Star L w) : Calls Try.prog 83 #[.agg (rcC 1 (1 :: x) at_)] w fun r w' => r = .returned (.tuple #[.agg (ocs (1, onm 1 x, x)).toArray, .bool true]) ∧ Star L w' := by
  have HMK : Hid (∀ (L : List SProp) (w : World), Star L w → Calls Try.prog 35 #[.int .i64 1, .string ⟨x.toArray⟩] w fun r w' => r = .returned (.agg (ocs (1, onm 1 x, x)).toArray) ∧ Star L w') := fun L w hM => make_star 1 1 rfl x (by omega) w hM
  have HSZ := Lib.hid (ocs_sz (o := (1, onm 1 x, x)) (onm_len 1 x))
  have HSZ0 := Lib.hid (ocs_sz oz32)
  have hle : (1 : Int) ≤ (x.length : Int) + 1 := by omega
  have hw1 : IntKind.i64.wrap 1 = 1 := by decide
  generalize onm 1 x = id at HMK HSZ ⊢
  go_enter Try.func83, Try.ntmps83
  go_wp2_with (first | (first | ((with_reducible refine at_box' ?_); (have hM0 := hM; clear hM; refine BigFrame.wpList_want (by rfl) fun K hK => ws_box hM0 rfl rfl (cs := rcC 1 (1 :: x) at_) rfl (fun g1 w hM => hK _ _ ?_); clear hM0 hK K)) | fail) | (first | ((with_reducible refine at_alloc' ?_); (have hM0 := hM; clear hM; refine BigFrame.wpList_want (by rfl) fun K hK => ws_alloc hM0 (t := 75) rfl (ocs (0, z32, [])).toArray info_ob (fun g2 w hM => hK _ _ ?_); clear hM0 hK K)) | fail) | (first | ((with_reducible refine at_load' ?_); (refine BigFrame.wpList_want (by rfl) fun K hK => ws_load1 hM rfl rfl (by (repeat (first | assumption | (with_reducible exact mZ) | apply mS)); first | done | fail) (by first | rfl | assumption) (by decide +kernel) (hK _ _ ?_); clear hK K)) | fail))
  (refine region_RS ([cellsE g1 38 (rcC 1 (1 :: x) at_)]) [] (by kernel_rfl) hM ?_; clear hM; change RS _ _ _ _ _ _ 10 (Array.replicate 10 false) _ _; refine RS_take (i := 0) rfl (by decide +kernel) (fun _ _ _ h => h) (by first | (intro x hx; (repeat (first | exact hx | apply mS)); done) | ((repeat (refine List.forall_mem_cons.2 ⟨(by (repeat (first | assumption | (with_reducible exact mZ) | apply mS)); first | done | fail), ?_⟩)); intro x hx; first | (cases hx; done) | ((repeat (first | exact hx | apply mS)); done))) (stab_pure (by rfl) (fun w => (by go_simp; try with_reducible rfl))) ?_; simp only [Act.put, List.setIfInBounds_toArray, List.set_cons_zero, List.set_cons_succ]; refine RS_take (i := 1) rfl (by decide +kernel) (fun _ _ _ h => h) (by first | (intro x hx; (repeat (first | exact hx | apply mS)); done) | ((repeat (refine List.forall_mem_cons.2 ⟨(by (repeat (first | assumption | (with_reducible exact mZ) | apply mS)); first | done | fail), ?_⟩)); intro x hx; first | (cases hx; done) | ((repeat (first | exact hx | apply mS)); done))) (stab_read (by rfl) (fun L w hL hM => (by first | exact ex_load1 hM rfl rfl (hL _ (by (repeat (first | assumption | (with_reducible exact mZ) | apply mS)); first | done | fail)) rfl (by kernel_rfl) | exact ex_rowload rfl rfl (hM.row (hL _ (by (repeat (first | assumption | (with_reducible exact mZ) | apply mS)); first | done | fail))) (by assumption) (by kernel_rfl) | exact ex_rowload0 rfl rfl (hM.row (hL _ (by (repeat (first | assumption | (with_reducible exact mZ) | apply mS)); first | done | fail))) (by assumption) (by kernel_rfl)))) ?_; simp only [Act.put, List.setIfInBounds_toArray, List.set_cons_zero, List.set_cons_succ]; refine RS_take (i := 2) rfl (by decide +kernel) (fun _ _ _ h => h) (by first | (intro x hx; (repeat (first | exact hx | apply mS)); done) | ((repeat (refine List.forall_mem_cons.2 ⟨(by (repeat (first | assumption | (with_reducible exact mZ) | apply mS)); first | done | fail), ?_⟩)); intro x hx; first | (cases hx; done) | ((repeat (first | exact hx | apply mS)); done))) (stab_pure (by rfl) (fun w => (by go_simp; try with_reducible rfl))) ?_; simp only [Act.put, List.setIfInBounds_toArray, List.set_cons_zero, List.set_cons_succ]; refine RS_take (i := 3) rfl (by decide +kernel) (fun _ _ _ h => h) (by first | (intro x hx; (repeat (first | exact hx | apply mS)); done) | ((repeat (refine List.forall_mem_cons.2 ⟨(by (repeat (first | assumption | (with_reducible exact mZ) | apply mS)); first | done | fail), ?_⟩)); intro x hx; first | (cases hx; done) | ((repeat (first | exact hx | apply mS)); done))) ((by first | exact stab_pure (by rfl) (fun w => (by go_simp; try with_reducible rfl)) | exact stab_read (by rfl) (fun L w hL hM => ex_string rfl 5 Try.underlying84 Try.underlying9 Try.underlying5 rfl (hM.row (hL _ (by (repeat (first | assumption | (with_reducible exact mZ) | apply mS)); first | done | fail)))))) ?_; simp only [Act.put, List.setIfInBounds_toArray, List.set_cons_zero, List.set_cons_succ]; refine RS_take (i := 4) rfl (by decide +kernel) (fun _ _ _ h => h) (by first | (intro x hx; (repeat (first | exact hx | apply mS)); done) | ((repeat (refine List.forall_mem_cons.2 ⟨(by (repeat (first | assumption | (with_reducible exact mZ) | apply mS)); first | done | fail), ?_⟩)); intro x hx; first | (cases hx; done) | ((repeat (first | exact hx | apply mS)); done))) (stab_pure (by rfl) (fun w => (by go_simp; try with_reducible rfl))) ?_; simp only [Act.put, List.setIfInBounds_toArray, List.set_cons_zero, List.set_cons_succ]; refine RS_take (i := 5) rfl (by decide +kernel) (fun _ _ _ h => h) (by first | (intro x hx; (repeat (first | exact hx | apply mS)); done) | ((repeat (refine List.forall_mem_cons.2 ⟨(by (repeat (first | assumption | (with_reducible exact mZ) | apply mS)); first | done | fail), ?_⟩)); intro x hx; first | (cases hx; done) | ((repeat (first | exact hx | apply mS)); done))) (stab_read (by rfl) (fun L w hL hM => (by first | exact ex_load1 hM rfl rfl (hL _ (by (repeat (first | assumption | (with_reducible exact mZ) | apply mS)); first | done | fail)) rfl (by kernel_rfl) | exact ex_rowload rfl rfl (hM.row (hL _ (by (repeat (first | assumption | (with_reducible exact mZ) | apply mS)); first | done | fail))) (by assumption) (by kernel_rfl) | exact ex_rowload0 rfl rfl (hM.row (hL _ (by (repeat (first | assumption | (with_reducible exact mZ) | apply mS)); first | done | fail))) (by assumption) (by kernel_rfl)))) ?_; simp only [Act.put, List.setIfInBounds_toArray, List.set_cons_zero, List.set_cons_succ]; refine RS_take (i := 6) rfl (by decide +kernel) (fun _ _ _ h => h) (by first | (intro x hx; (repeat (first | exact hx | apply mS)); done) | ((repeat (refine List.forall_mem_cons.2 ⟨(by (repeat (first | assumption | (with_reducible exact mZ) | apply mS)); first | done | fail), ?_⟩)); intro x hx; first | (cases hx; done) | ((repeat (first | exact hx | apply mS)); done))) (stab_pure (by rfl) (fun w => (by go_simp; try with_reducible rfl))) ?_; simp only [Act.put, List.setIfInBounds_toArray, List.set_cons_zero, List.set_cons_succ]; refine RS_take (i := 7) rfl (by decide +kernel) (fun _ _ _ h => h) (by first | (intro x hx; (repeat (first | exact hx | apply mS)); done) | ((repeat (refine List.forall_mem_cons.2 ⟨(by (repeat (first | assumption | (with_reducible exact mZ) | apply mS)); first | done | fail), ?_⟩)); intro x hx; first | (cases hx; done) | ((repeat (first | exact hx | apply mS)); done))) (stab_call (by rfl) (fun w => (by go_simp; try with_reducible rfl)) (fun L w hL hM => (HMK.out _ w hM))) ?_; simp only [Act.put, List.setIfInBounds_toArray, List.set_cons_zero, List.set_cons_succ]; refine RS_one (i := 8) (by decide +kernel) rfl (by rfl) (.inl (by first | (intro x hx; (repeat (first | exact hx | apply mS)); done) | ((repeat (refine List.forall_mem_cons.2 ⟨(by (repeat (first | assumption | (with_reducible exact mZ) | apply mS)); first | done | fail), ?_⟩)); intro x hx; first | (cases hx; done) | ((repeat (first | exact hx | apply mS)); done)))) (fun w K hM0 hK => ?_); refine ws_store hM0 rfl rfl rfl (by (repeat (first | (with_reducible exact Take.head) | apply Take.tail)); first | done | fail) (n := 34) (by exact HSZ.out) (by exact HSZ0.out) (by kernel_rfl) (by exact ocs_oneA _) (fun w hM => hK _ _ _ hM ?_); clear hM hM0 hK K; simp only [Act.put, List.setIfInBounds_toArray, List.set_cons_zero, List.set_cons_succ]; refine RS_take (i := 9) rfl (by decide +kernel) (fun _ _ _ h => h) (by first | (intro x hx; (repeat (first | exact hx | apply mS)); done) | ((repeat (refine List.forall_mem_cons.2 ⟨(by (repeat (first | assumption | (with_reducible exact mZ) | apply mS)); first | done | fail), ?_⟩)); intro x hx; first | (cases hx; done) | ((repeat (first | exact hx | apply mS)); done))) (stab_pure (by rfl) (fun w => (by go_simp; try with_reducible rfl))) ?_; simp only [Act.put, List.setIfInBounds_toArray, List.set_cons_zero, List.set_cons_succ]; refine RS_done (by decide +kernel) (.inl (by first | (intro x hx; (repeat (first | exact hx | apply mS)); done) | ((repeat (refine List.forall_mem_cons.2 ⟨(by (repeat (first | assumption | (with_reducible exact mZ) | apply mS)); first | done | fail), ?_⟩)); intro x hx; first | (cases hx; done) | ((repeat (first | exact hx | apply mS)); done)))) (fun w hM => ?_))
  go_wp2_with fail
  refine bodyPost_ret (results_row_tmp (P := Try.prog) (ty := 75) rfl _ _ g2 75 (ocs (1, id, x)).toArray 34 _ rfl rfl (hM.blk (by (repeat (first | assumption | (with_reducible exact mZ) | apply mS)); first | done | fail)) HSZ.out (by decide +kernel)) rfl ?_
  exact ⟨rfl, hM.sel (by repeat (first | (with_reducible exact Sel.refl) | (with_reducible exact Take.head) | (with_reducible apply Take.tail) | (with_reducible apply Sel.cons) | (with_reducible apply Sel.drop)))⟩
set_option maxRecDepth 100000 in
set_option maxHeartbeats 16000000 in
/-- The object of that name, as the disk has it. -/
theorem get_d {d gm N h t m at_ : Nat} {B : BA} {D : Dsk} {rs pre post : List Rc} {al : List (List UInt8 × Nat)} {x : List UInt8} (V : Hid (Live N D h t m rs)) (ht : t ≤ 1000000) (hrs : rs = pre ++ (1, 1 :: x) :: post) (hat : at_ = frT h t + tot pre) (hx : x.length ≤ 100000) (hin : (onm 1 x, at_) ∈ al) (w : World) (hM : Star L w) (hb : Take (bookE B D t h rs) L R) (hd : dpc d B.b gm ∈ R) (ha : amE gm al ∈ R) :
    Calls Try.prog 53 #[.pointer (some ⟨d, 0, none⟩), .agg (bvs (onm 1 x)).toArray] w fun r w' => ∃ D', Hid (Live N D' h t m rs) ∧ r = .returned (.tuple #[.agg (ocs (1, onm 1 x, x)).toArray, .int .i64 0]) ∧ Star (bookE B D' t h rs :: R) w' := by
  have HG : Hid (∀ (L R : List SProp) (w : World), Star L w → Take (bookE B D t h rs) L R → Calls Try.prog 82 #[bptr B.b, iv64 at_] w fun r w' => ∃ D', Hid (Live N D' h t m rs) ∧ r = .returned (.tuple #[.agg (rcC 1 (1 :: x) at_), .int .i64 0]) ∧ Star (bookE B D' t h rs :: R) w') := fun L R w hM hx => get_u (q := []) (k := 1) (d := 1 :: x) V ht hrs hat w hM hx
  have HO : Hid (∀ (L : List SProp) (w : World), Star L w → Calls Try.prog 83 #[.agg (rcC 1 (1 :: x) at_)] w fun r w' => r = .returned (.tuple #[.agg (ocs (1, onm 1 x, x)).toArray, .bool true]) ∧ Star L w') := fun L w hM => object_d hx w hM
  have hil := onm_len 1 x
  obtain ⟨kl, hkl⟩ := id_key hil
  have HK := Lib.hid hkl
  have HIN : Hid ((idv (onm 1 x), iv64 at_) ∈ atv al) := List.mem_map.2 ⟨_, hin, rfl⟩
  have HSZ := Lib.hid (ocs_sz (o := (1, onm 1 x, x)) hil)
  have HSZ0 := Lib.hid (ocs_sz oz32)
  have HID := Lib.hid (ocs_id (1, onm 1 x, x))
  have HX := Lib.hid hil
  generalize onm 1 x = id at HO HK HIN HSZ HID HX ⊢
  have heq : ∀ w, (Op.equalIn 10000 73 (.agg (bvs id).toArray) (.agg (bvs id).toArray)).run Try.prog w = .ok true w := fun w => by
    have h := run_eql_bytes (P := Try.prog) w 73 5 32 Try.underlying73 Try.underlying5 (by kernel_rfl) id id HX.out HX.out 9998
    rw [decide_eq_true rfl] at h
    exact h
  replace hM := hM.take hb
  clear V hrs hat hx hin hil hkl hb
  have tok1 : True := trivial
  have tok2 : True := trivial
  go_enter Try.func53, Try.ntmps53
  go_wp2_with (first | (first | ((with_reducible refine at_box' ?_); (have hM0 := hM; clear hM; refine BigFrame.wpList_want (by rfl) fun K hK => ws_box hM0 rfl rfl (cs := (bvs id).toArray) rfl (fun g3 w hM => hK _ _ ?_); clear hM0 hK K)) | fail) | (have _t := tok1; (first | ((with_reducible refine at_alloc' ?_); (have hM0 := hM; clear hM; refine BigFrame.wpList_want (by rfl) fun K hK => ws_alloc hM0 (t := 75) rfl (ocs (0, z32, [])).toArray info_ob (fun g4 w hM => hK _ _ ?_); clear hM0 hK K)) | fail); clear tok1))
  (refine region_RS ([dpc d B.b gm, amE gm al, cellsE g3 idT (bvs id).toArray]) [] (by kernel_rfl) hM ?_; clear hM; change RS _ _ _ _ _ _ 11 (Array.replicate 11 false) _ _; refine RS_take (i := 0) rfl (by decide +kernel) (fun _ _ _ h => h) (by first | (intro x hx; (repeat (first | exact hx | apply mS)); done) | ((repeat (refine List.forall_mem_cons.2 ⟨(by (repeat (first | assumption | (with_reducible exact mZ) | apply mS)); first | done | fail), ?_⟩)); intro x hx; first | (cases hx; done) | ((repeat (first | exact hx | apply mS)); done))) (stab_pure (by rfl) (fun w => (by go_simp; try with_reducible rfl))) ?_; simp only [Act.put, List.setIfInBounds_toArray, List.set_cons_zero, List.set_cons_succ]; refine RS_take (i := 1) rfl (by decide +kernel) (fun _ _ _ h => h) (by first | (intro x hx; (repeat (first | exact hx | apply mS)); done) | ((repeat (refine List.forall_mem_cons.2 ⟨(by (repeat (first | assumption | (with_reducible exact mZ) | apply mS)); first | done | fail), ?_⟩)); intro x hx; first | (cases hx; done) | ((repeat (first | exact hx | apply mS)); done))) (stab_pure (by rfl) (fun w => (by go_simp; try with_reducible rfl))) ?_; simp only [Act.put, List.setIfInBounds_toArray, List.set_cons_zero, List.set_cons_succ]; refine RS_take (i := 2) rfl (by decide +kernel) (fun _ _ _ h => h) (by first | (intro x hx; (repeat (first | exact hx | apply mS)); done) | ((repeat (refine List.forall_mem_cons.2 ⟨(by (repeat (first | assumption | (with_reducible exact mZ) | apply mS)); first | done | fail), ?_⟩)); intro x hx; first | (cases hx; done) | ((repeat (first | exact hx | apply mS)); done))) (stab_pure (by rfl) (fun w => (by go_simp; try with_reducible rfl))) ?_; simp only [Act.put, List.setIfInBounds_toArray, List.set_cons_zero, List.set_cons_succ]; refine RS_take (i := 3) rfl (by decide +kernel) (fun _ _ _ h => h) (by first | (intro x hx; (repeat (first | exact hx | apply mS)); done) | ((repeat (refine List.forall_mem_cons.2 ⟨(by (repeat (first | assumption | (with_reducible exact mZ) | apply mS)); first | done | fail), ?_⟩)); intro x hx; first | (cases hx; done) | ((repeat (first | exact hx | apply mS)); done))) (stab_read (by rfl) (fun L w hL hM => (by first | exact ex_load1 hM rfl rfl (hL _ (by (repeat (first | assumption | (with_reducible exact mZ) | apply mS)); first | done | fail)) rfl (by kernel_rfl) | exact ex_rowload rfl rfl (hM.row (hL _ (by (repeat (first | assumption | (with_reducible exact mZ) | apply mS)); first | done | fail))) (by assumption) (by kernel_rfl) | exact ex_rowload0 rfl rfl (hM.row (hL _ (by (repeat (first | assumption | (with_reducible exact mZ) | apply mS)); first | done | fail))) (by assumption) (by kernel_rfl)))) ?_; simp only [Act.put, List.setIfInBounds_toArray, List.set_cons_zero, List.set_cons_succ]; refine RS_take (i := 4) rfl (by decide +kernel) (fun _ _ _ h => h) (by first | (intro x hx; (repeat (first | exact hx | apply mS)); done) | ((repeat (refine List.forall_mem_cons.2 ⟨(by (repeat (first | assumption | (with_reducible exact mZ) | apply mS)); first | done | fail), ?_⟩)); intro x hx; first | (cases hx; done) | ((repeat (first | exact hx | apply mS)); done))) (stab_read (by rfl) (fun L w hL hM => (ex_load hM rfl rfl (hL _ (by (repeat (first | assumption | (with_reducible exact mZ) | apply mS)); first | done | fail)) (n := 32) (by simp [bvs_len, HX.out]) (by decide +kernel)))) ?_; simp only [Act.put, List.setIfInBounds_toArray, List.set_cons_zero, List.set_cons_succ]; refine RS_take (i := 5) rfl (by decide +kernel) (fun _ _ _ h => h) (by first | (intro x hx; (repeat (first | exact hx | apply mS)); done) | ((repeat (refine List.forall_mem_cons.2 ⟨(by (repeat (first | assumption | (with_reducible exact mZ) | apply mS)); first | done | fail), ?_⟩)); intro x hx; first | (cases hx; done) | ((repeat (first | exact hx | apply mS)); done))) (stab_read (by rfl) (fun L w hL hM => (ex_hit2 (key := idv id) hM rfl Try.underlying68 rfl rfl (hL _ (by (repeat (first | assumption | (with_reducible exact mZ) | apply mS)); first | done | fail)) keyed_id HK.out HIN.out))) ?_; simp only [Act.put, List.setIfInBounds_toArray, List.set_cons_zero, List.set_cons_succ]; refine RS_take (i := 6) rfl (by decide +kernel) (fun _ _ _ h => h) (by first | (intro x hx; (repeat (first | exact hx | apply mS)); done) | ((repeat (refine List.forall_mem_cons.2 ⟨(by (repeat (first | assumption | (with_reducible exact mZ) | apply mS)); first | done | fail), ?_⟩)); intro x hx; first | (cases hx; done) | ((repeat (first | exact hx | apply mS)); done))) (stab_pure (by rfl) (fun w => (by go_simp; try with_reducible rfl))) ?_; simp only [Act.put, List.setIfInBounds_toArray, List.set_cons_zero, List.set_cons_succ]; refine RS_take (i := 7) rfl (by decide +kernel) (fun _ _ _ h => h) (by first | (intro x hx; (repeat (first | exact hx | apply mS)); done) | ((repeat (refine List.forall_mem_cons.2 ⟨(by (repeat (first | assumption | (with_reducible exact mZ) | apply mS)); first | done | fail), ?_⟩)); intro x hx; first | (cases hx; done) | ((repeat (first | exact hx | apply mS)); done))) (stab_pure (by rfl) (fun w => (by go_simp; try with_reducible rfl))) ?_; simp only [Act.put, List.setIfInBounds_toArray, List.set_cons_zero, List.set_cons_succ]; refine RS_take (i := 8) rfl (by decide +kernel) (fun _ _ _ h => h) (by first | (intro x hx; (repeat (first | exact hx | apply mS)); done) | ((repeat (refine List.forall_mem_cons.2 ⟨(by (repeat (first | assumption | (with_reducible exact mZ) | apply mS)); first | done | fail), ?_⟩)); intro x hx; first | (cases hx; done) | ((repeat (first | exact hx | apply mS)); done))) (stab_pure (by rfl) (fun w => (by go_simp; try with_reducible rfl))) ?_; simp only [Act.put, List.setIfInBounds_toArray, List.set_cons_zero, List.set_cons_succ]; refine RS_take (i := 9) rfl (by decide +kernel) (fun _ _ _ h => h) (by first | (intro x hx; (repeat (first | exact hx | apply mS)); done) | ((repeat (refine List.forall_mem_cons.2 ⟨(by (repeat (first | assumption | (with_reducible exact mZ) | apply mS)); first | done | fail), ?_⟩)); intro x hx; first | (cases hx; done) | ((repeat (first | exact hx | apply mS)); done))) (stab_pure (by rfl) (fun w => (by go_simp; try with_reducible rfl))) ?_; simp only [Act.put, List.setIfInBounds_toArray, List.set_cons_zero, List.set_cons_succ]; refine RS_take (i := 10) rfl (by decide +kernel) (fun _ _ _ h => h) (by first | (intro x hx; (repeat (first | exact hx | apply mS)); done) | ((repeat (refine List.forall_mem_cons.2 ⟨(by (repeat (first | assumption | (with_reducible exact mZ) | apply mS)); first | done | fail), ?_⟩)); intro x hx; first | (cases hx; done) | ((repeat (first | exact hx | apply mS)); done))) (stab_pure (by rfl) (fun w => (by go_simp; try with_reducible rfl))) ?_; simp only [Act.put, List.setIfInBounds_toArray, List.set_cons_zero, List.set_cons_succ]; refine RS_done (by decide +kernel) (.inl (by first | (intro x hx; (repeat (first | exact hx | apply mS)); done) | ((repeat (refine List.forall_mem_cons.2 ⟨(by (repeat (first | assumption | (with_reducible exact mZ) | apply mS)); first | done | fail), ?_⟩)); intro x hx; first | (cases hx; done) | ((repeat (first | exact hx | apply mS)); done)))) (fun w hM => ?_))
  go_wp2_with (first | (first | ((with_reducible refine at_load' ?_); (refine BigFrame.wpList_want (by rfl) fun K hK => ws_load1 hM rfl rfl (by (repeat (first | assumption | (with_reducible exact mZ) | apply mS)); first | done | fail) (by first | rfl | assumption) (by decide +kernel) (hK _ _ ?_); clear hK K)) | fail) | (go_at_call 82; have hM0 := hM; clear hM; (first | (with_reducible refine (HG.out _ _ _ hM0 (by (repeat (first | (with_reducible exact Take.head) | apply Take.tail)); first | done | fail)).mono ?_) | fail); clear hM0; rintro _ w ⟨D1, hV1, rfl, hM⟩) | (first | ((with_reducible refine at_alloc' ?_); (have hM0 := hM; clear hM; refine BigFrame.wpList_want (by rfl) fun K hK => ws_alloc hM0 (t := 38) rfl rc0 info_rc (fun g8 w hM => hK _ _ ?_); clear hM0 hK K)) | fail) | (first | ((with_reducible refine at_store' ?_); (have hM0 := hM; clear hM; refine BigFrame.wpList_want (by rfl) fun K hK => ws_store hM0 rfl rfl rfl (by (repeat (first | (with_reducible exact Take.head) | apply Take.tail)); first | done | fail) (n := 3) (by rfl) (by rfl) (by kernel_rfl) (by simp [Value.oneCell']) (fun w hM => hK _ _ ?_); clear hM0 hK K)) | fail) | (first | ((with_reducible refine at_load' ?_); (refine BigFrame.wpList_want (by rfl) fun K hK => ws_load hM rfl rfl (by (repeat (first | assumption | (with_reducible exact mZ) | apply mS)); first | done | fail) (n := 3) (by rfl) (by decide +kernel) (hK _ _ ?_); clear hK K)) | fail) | (go_at_call 83; have hM0 := hM; clear hM; (first | (with_reducible refine (HO.out _ _ hM0).mono ?_) | fail); clear hM0; rintro _ w ⟨rfl, hM⟩) | (have _t := tok2; (first | ((with_reducible refine at_alloc' ?_); (have hM0 := hM; clear hM; refine BigFrame.wpList_want (by rfl) fun K hK => ws_alloc hM0 (t := 75) rfl (ocs (0, z32, [])).toArray info_ob (fun g10 w hM => hK _ _ ?_); clear hM0 hK K)) | fail); clear tok2) | (first | ((with_reducible refine at_store' ?_); (have hM0 := hM; clear hM; refine BigFrame.wpList_want (by rfl) fun K hK => ws_store hM0 rfl rfl rfl (by (repeat (first | (with_reducible exact Take.head) | apply Take.tail)); first | done | fail) (n := 34) (by exact HSZ.out) (by exact HSZ0.out) (by kernel_rfl) (by exact ocs_oneA _) (fun w hM => hK _ _ ?_); clear hM0 hK K)) | fail) | (first | ((with_reducible refine at_load' ?_); (refine BigFrame.wpList_want (by rfl) fun K hK => ws_load hM rfl rfl (by (repeat (first | assumption | (with_reducible exact mZ) | apply mS)); first | done | fail) (n := 32) (by simp [bvs_len, HX.out]) (by decide +kernel) (hK _ _ ?_); clear hK K)) | fail) | ((with_reducible refine at_load' ?_); refine BigFrame.wpList_want (by rfl) fun K hK => ws_load_mid hM rfl rfl (by (repeat (first | assumption | (with_reducible exact mZ) | apply mS)); first | done | fail) (bvs id) HID.out (n := 32) (by rw [bvs_len]; exact HX.out) (by decide +kernel) (hK _ _ ?_); clear hK K) | (first | ((with_reducible refine at_load' ?_); (refine BigFrame.wpList_want (by rfl) fun K hK => ws_load hM rfl rfl (by (repeat (first | assumption | (with_reducible exact mZ) | apply mS)); first | done | fail) (n := 34) (by exact HSZ.out) (by decide +kernel) (hK _ _ ?_); clear hK K)) | fail))
  refine bodyPost_ret (results_row_tmp (P := Try.prog) (ty := 75) rfl _ _ g4 75 (ocs (1, id, x)).toArray 34 _ rfl rfl (hM.blk (by (repeat (first | assumption | (with_reducible exact mZ) | apply mS)); first | done | fail)) HSZ.out (by decide +kernel)) rfl ?_
  exact ⟨D1, hV1, rfl, hM.sel (by repeat (first | (with_reducible exact Sel.refl) | (with_reducible exact Take.head) | (with_reducible apply Take.tail) | (with_reducible apply Sel.cons) | (with_reducible apply Sel.drop)))⟩
end
end Go.Proofs.Ytnckgkgilnmocaa
set_option linter.unusedSimpArgs false
set_option linter.unusedVariables false
namespace Go.Proofs.Ytnckgkgilnmocaa
open Go.RowKit
attribute [local go_sem] extract_mid extract_drop bget bsize wrap64_u8 i64_u8 u64_u8 bappend
abbrev Tx := List UInt8
def recs (ts : List Tx) : List Rc := ts.map fun x => (1, 1 :: x)
theorem recs_app (a b : List Tx) : recs (a ++ b) = recs a ++ recs b := by simp [recs]
theorem recs_cons (x : Tx) (b : List Tx) : recs (x :: b) = (1, 1 :: x) :: recs b := rfl
/-- Which object lies where. -/
def alA : Nat → List Tx → List (Tx × Nat)
  | _, [] => []
  | p, x :: l => (onm 1 x, p) :: alA (p + bcost (x.length + 1)) l
theorem alA_app (a b : List Tx) : ∀ p, alA p (a ++ b) = alA p a ++ alA (p + tot (recs a)) b := by
  induction a with
  | nil => intro p; simp [alA, recs, tot]
  | cons x a ih =>
    intro p
    simp only [List.cons_append, alA, ih, recs_cons, tot_cons, Nat.add_assoc]
    rfl
theorem alA_names (l : List Tx) : ∀ p, (alA p l).map (·.1) = l.map (onm 1) := by
  induction l with
  | nil => intro p; rfl
  | cons x l ih => intro p; simp only [alA, List.map_cons, ih]
theorem alA_mem (l : List Tx) : ∀ p n q, (n, q) ∈ alA p l → ∃ a x b, l = a ++ x :: b ∧ n = onm 1 x ∧ q = p + tot (recs a) := by
  induction l with
  | nil => intro p n q h; cases h
  | cons x l ih =>
    intro p n q h
    rcases List.mem_cons.1 h with h | h
    · injection h with h1 h2
      exact ⟨[], x, l, rfl, h1, by simp [recs, tot, h2]⟩
    · obtain ⟨a, y, b, rfl, h1, h2⟩ := ih _ _ _ h
      exact ⟨x :: a, y, b, rfl, h1, by rw [recs_cons, tot_cons, ← Nat.add_assoc]; exact h2⟩
def alT (h : Nat) (ts : List Tx) : List (Tx × Nat) := (alA (frT h 1) ts).reverse
theorem alT_mem {h : Nat} {ts : List Tx} {n : Tx} : n ∈ (alT h ts).map (·.1) ↔ n ∈ ts.map (onm 1) := by
  unfold alT
  rw [List.map_reverse, List.mem_reverse, alA_names]
theorem alT_len (h : Nat) (ts : List Tx) : (alT h ts).length = ts.length := by
  have := congrArg List.length (alA_names ts (frT h 1))
  simpa [alT] using this
theorem alT_32 (h : Nat) (ts : List Tx) : al32 (alT h ts) := fun x hx => by
  have h1 : x.1 ∈ (alT h ts).map (·.1) := List.mem_map.2 ⟨x, hx, rfl⟩
  rw [alT_mem] at h1
  obtain ⟨y, -, hy⟩ := List.mem_map.1 h1
  rw [← hy]
  exact onm_len 1 y
theorem alT_snoc (h : Nat) (ts : List Tx) (x : Tx) : alT h (ts ++ [x]) = (onm 1 x, frT h 1 + tot (recs ts)) :: alT h ts := by
  unfold alT
  rw [alA_app]
  simp [alA]
/-- A depot under way, as one part. -/
def dpE (B : BA) (d gm : Nat) (D : Dsk) (h : Nat) (ts : List Tx) : SProp := joinE [dpc d B.b gm, amE gm (alT h ts), bookE B D 1 h (recs ts)]
section
variable {F L R : List SProp} {B : BA} {d gm h N : Nat} {D : Dsk} {ts : List Tx}
theorem Star.dpopen {w : World} (H : Star (dpE B d gm D h ts :: L) w) : Star (dpc d B.b gm :: amE gm (alT h ts) :: bookE B D 1 h (recs ts) :: L) w := H.openL
theorem Star.dpjoin {w : World} (H : Star (dpc d B.b gm :: amE gm (alT h ts) :: bookE B D 1 h (recs ts) :: L) w) : Star (dpE B d gm D h ts :: L) w :=
  Star.joinL (l := [dpc d B.b gm, amE gm (alT h ts), bookE B D 1 h (recs ts)]) H (by
    intro x hx
    simp only [List.mem_cons, List.not_mem_nil, or_false] at hx
    rcases hx with rfl | rfl | rfl <;> rfl)
set_option maxRecDepth 100000 in
theorem see_nil {b c : Nat} {A : Option Addr} (w : World) (hM : Star L w) (hd : Take (cellsE d 70 #[bptr b, .map none]) L R) :
    Calls Try.prog 84 #[bptr d, .slice A 0 c] w fun r w' => ∃ gm, r = .returned (.tuple #[]) ∧ Star (dpc d b gm :: amE gm [] :: R) w' := by
  replace hM := hM.take hd
  clear hd
  go_enter Try.func84, Try.ntmps84
  go_wp2_with (first | (first | ((with_reducible refine at_makemap' ?_); (have hM0 := hM; clear hM; refine BigFrame.wpList_want (by rfl) fun K hK => ws_makemap hM0 rfl idT (fun gm w hM => hK _ _ ?_); clear hM0 hK K)) | fail) | (first | ((with_reducible refine at_store' ?_); (have hM0 := hM; clear hM; refine BigFrame.wpList_want (by rfl) fun K hK => ws_store1 hM0 rfl rfl (by go_simp; rfl) (by first | rfl | assumption) (by (repeat (first | (with_reducible exact Take.head) | apply Take.tail)); first | done | fail) (by simp) (by kernel_rfl) (by simp only [List.setIfInBounds_toArray, List.set_cons_zero, List.set_cons_succ]; rfl) (fun w hM => hK _ _ ?_); clear hM0 hK K)) | fail))
  replace hM : Star (dpc d b gm :: amE gm [] :: R) _ := hM
  go_loopw [14] (fun i wr => i = .int .i64 0 ∧ Star (dpc d b gm :: amE gm [] :: R) wr) (fun _ _ => 0)
  case atStart => exact ⟨rfl, hM⟩
  case round =>
    clear hM
    obtain ⟨rfl, hM⟩ := hrel
    go_wp2_with fail
    go_end0
    exact ⟨gm, rfl, hM⟩
set_option maxRecDepth 100000 in
theorem load_d {b c : Nat} {A : Option Addr} (w : World) (hM : Star L w) :
    Calls Try.prog 54 #[bptr b, .slice A 0 c] w fun r w' => ∃ d gm, r = .returned (bptr d) ∧ Star (dpc d b gm :: amE gm [] :: L) w' := by
  have HS : Hid (∀ (d : Nat) (L R : List SProp) (w : World), Star L w → Take (cellsE d 70 #[bptr b, .map none]) L R → Calls Try.prog 84 #[bptr d, .slice A 0 c] w fun r w' => ∃ gm, r = .returned (.tuple #[]) ∧ Star (dpc d b gm :: amE gm [] :: R) w') := fun d L R w hM hd => see_nil w hM hd
  go_enter Try.func54, Try.ntmps54
  go_wp2_with (first | (first | ((with_reducible refine at_box' ?_); (have hM0 := hM; clear hM; refine BigFrame.wpList_want (by rfl) fun K hK => ws_box hM0 rfl rfl (cs := #[bptr b, .map none]) rfl (fun d w hM => hK _ _ ?_); clear hM0 hK K)) | fail) | (go_at_call 84; have hM0 := hM; clear hM; (first | (with_reducible refine (HS.out d _ _ _ hM0 (by (repeat (first | (with_reducible exact Take.head) | apply Take.tail)); first | done | fail)).mono ?_) | fail); clear hM0; rintro _ w ⟨gm, rfl, hM⟩))
  go_ret
  exact ⟨d, gm, rfl, hM.sel (by repeat (first | (with_reducible exact Sel.refl) | (with_reducible exact Take.head) | (with_reducible apply Take.tail) | (with_reducible apply Sel.cons) | (with_reducible apply Sel.drop)))⟩
set_option maxRecDepth 100000 in
/-- The law's depot on a new disk. -/
theorem new_13 (N h : Nat) (h1 : 4 ≤ N) (h2 : N ≤ 120) (hh : h = (N - 2) / 2) (w : World) (hM : Star F w) :
    Calls Try.prog 25 #[.int .i64 (N : Int)] w fun r w' => ∃ (B : BA) (d gm : Nat) (D : Dsk), Hid (Live N D h 1 0 []) ∧ r = .returned (.tuple #[dptr B.a, bptr d]) ∧ Star (dpE B d gm D h [] :: F) w' := by
  subst hh
  have HNEW : Hid (∀ (L : List SProp) (w : World), Star L w → Calls Try.prog 19 #[.int .i64 (N : Int)] w fun r w' => ∃ (a : DA) (D : Dsk), Hid (NPost D N) ∧ r = .returned (dptr a) ∧ Star (diskE a D :: L) w') := fun L w hM => new_u (N := N) (by omega) w hM
  have HOP : Hid (∀ (a : DA) (D : Dsk), Hid (NPost D N) → ∀ (L R : List SProp) (w : World), Star L w → Take (diskE a D) L R → Calls Try.prog 14 #[dptr a] w fun r w' => ∃ (B : BA) (D' : Dsk) (A : Option Addr) (c : Nat), B.a = a ∧ Hid (Live N D' ((N - 2) / 2) 1 0 []) ∧ r = .returned (.tuple #[bptr B.b, .slice A 0 c, .int .i64 0]) ∧ Star (bookE B D' 1 ((N - 2) / 2) [] :: R) w') := fun a D p L R w hM hx => by
    refine (open_u (N := N) (p.out.pre h1 (by omega)) p.out.len w hM hx).mono ?_
    rintro r w' ⟨B, D', A, c, e, l, q, hM⟩
    exact ⟨B, D', A, c, e, l, q, hM.sel (.drop .refl)⟩
  have HLD : Hid (∀ (b c : Nat) (A : Option Addr) (L : List SProp) (w : World), Star L w → Calls Try.prog 54 #[bptr b, .slice A 0 c] w fun r w' => ∃ d gm, r = .returned (bptr d) ∧ Star (dpc d b gm :: amE gm [] :: L) w') := fun b c A L w hM => load_d w hM
  have g1 : (if (N : Int) < 4 then (4 : Int) else N) = N := if_neg (by omega)
  have g2 : (if 120 < (N : Int) then (120 : Int) else N) = N := if_neg (by omega)
  have g3 : max (N : Int) 4 = N := by omega
  have g4 : min (N : Int) 120 = N := by omega
  clear h1 h2
  go_enter Try.func25, Try.ntmps25
  go_wp2_with (first | (go_at_call 19; have hM0 := hM; clear hM; (first | (with_reducible refine (HNEW.out _ _ hM0).mono ?_) | fail); clear hM0; rintro _ w ⟨a, D0, h0, rfl, hM⟩) | (go_at_call 14; have hM0 := hM; clear hM; (first | (with_reducible refine (HOP.out a D0 h0 _ _ _ hM0 (by (repeat (first | (with_reducible exact Take.head) | apply Take.tail)); first | done | fail)).mono ?_) | fail); clear hM0; rintro _ w ⟨B, D1, A1, c1, hBa, h1, rfl, hM⟩) | (go_at_call 54; have hM0 := hM; clear hM; (first | (with_reducible refine (HLD.out B.b c1 A1 _ _ hM0).mono ?_) | fail); clear hM0; rintro _ w ⟨d, gm, rfl, hM⟩))
  subst hBa
  go_ret2
  exact ⟨B, d, gm, D1, h1, rfl, Star.dpjoin hM⟩
end
end Go.Proofs.Ytnckgkgilnmocaa
set_option linter.unusedSimpArgs false
set_option linter.unusedVariables false
namespace Go.Proofs.Ytnckgkgilnmocaa
open Go.RowKit
attribute [local go_sem] extract_mid extract_drop bget bsize wrap64_u8 i64_u8 u64_u8 bappend
abbrev actC (A : Option Addr) (n c : Nat) : Array Value := #[.int .i64 0, .int .i64 0, .int .i64 0, .slice A n c, .slice none 0 0, .bool false]
def mo (x : Tx) : Ob := (1, onm 1 x, x)
def cut150 (x : Tx) : Tx := cutP x 150
theorem cut150_len (x : Tx) : (cut150 x).length ≤ 150 := by
  have := cutP_len x 150 (by omega)
  unfold cut150
  omega
/-- The texts of the objects. -/
def mts (ts : List Tx) : List Tx := (ts.take 5).map cut150
theorem mts_len (ts : List Tx) : (mts ts).length ≤ 5 := by unfold mts; rw [List.length_map, List.length_take]; omega
theorem mts_150 (ts : List Tx) : ∀ x ∈ mts ts, x.length ≤ 150 := fun x hx => by
  unfold mts at hx
  obtain ⟨y, -, rfl⟩ := List.mem_map.1 hx
  exact cut150_len y
abbrev obL (xs : List Tx) : List Ob := xs.map mo
theorem obL_32 (xs : List Tx) : ob32 (obL xs) := fun o ho => by
  obtain ⟨x, -, rfl⟩ := List.mem_map.1 ho
  exact onm_len 1 x
section
variable {F L R : List SProp}
set_option maxRecDepth 100000 in
set_option maxHeartbeats 8000000 in
theorem made_d {A : Option Addr} {n c : Nat} (ts : List Tx) (w : World) (hM : Star L w) (hr : rowE 1 A n (svs ts) ∈ L) :
    Calls Try.prog 26 #[.agg (actC A n c)] w fun r w' => ∃ B e, r = .returned (.slice B (mts ts).length e) ∧ Star (rowE 34 B (mts ts).length (ovs (obL (mts ts))) :: L) w' := by
  have HL := Lib.hid (svs_row (hM.row hr))
  go_enter Try.func26, Try.ntmps26
  go_wp2_with (first | (first | ((with_reducible refine at_box' ?_); (have hM0 := hM; clear hM; refine BigFrame.wpList_want (by rfl) fun K hK => ws_box hM0 rfl rfl (cs := actC A n c) rfl (fun gb w hM => hK _ _ ?_); clear hM0 hK K)) | fail) | (first | ((with_reducible refine at_slice' ?_); (have hM0 := hM; clear hM; refine BigFrame.wpList_want (by rfl) fun K hK => ws_slice_own hM0 (n := 0) rfl 75 34 (.agg (ocs (0, z32, [])).toArray) [] Try.underlying63 (by kernel_rfl) rfl (by simp [Value.cells, iv, sv, bv]) (by rfl) (by decide) (by decide) (cs := []) (by rfl) (fun g3 w hM => hK _ _ ?_); clear hM0 hK K)) | fail))
  go_loopw [4, 3] (fun i s wr => ∃ (k : Nat) (B : Option Addr) (e : Nat), k ≤ n ∧ k ≤ 5 ∧ i = .int .i64 k ∧ s = .slice B k e ∧ Star (ownE 75 34 B k e (ovs (obL ((ts.take k).map cut150))) :: cellsE gb 66 (actC A n c) :: L) wr) (fun i _ _ => n - (intOf i).toNat)
  case atStart => exact ⟨0, _, _, Nat.zero_le _, Nat.zero_le _, rfl, rfl, hM⟩
  case round =>
    clear hM
    obtain ⟨k, B, e, hk, hk5, rfl, rfl, hM⟩ := hrel
    by_cases hgo : k < n ∧ k < 5
    · obtain ⟨hlt, hk6⟩ := hgo
      obtain ⟨ad, d, rfl, hv, hg, ht⟩ := hM.elemS (A := A) (n := n) (l := ts) (by (repeat (first | assumption | (with_reducible exact mZ) | apply mS)); first | done | fail) hlt
      have HT : Hid (ovs (obL ((ts.take (k + 1)).map cut150)) = ovs (obL ((ts.take k).map cut150)) ++ ovs [(1, onm 1 (cut150 d), cut150 d)]) := by
        show _ = _
        rw [ht, List.map_append, show obL (List.map cut150 (ts.take k) ++ List.map cut150 [d]) = obL (List.map cut150 (ts.take k)) ++ [mo (cut150 d)] by simp [obL], ovs_app]
        rfl
      have HC : Hid (∀ (L : List SProp) (w : World), Star L w → Calls Try.prog 32 #[.string ⟨d.toArray⟩, .int .i64 150] w fun r w' => r = .returned (.string ⟨(cut150 d).toArray⟩) ∧ Star L w') := fun L w hM => (cut_any d 150 (by omega) w).mono fun r w' ⟨e, h⟩ => ⟨e, h ▸ hM⟩
      have hel := cut150_len d
      generalize cut150 d = x at HT HC hel
      have HMK := Lib.hid (fun (L : List SProp) (w : World) (hM : Star L w) => make_star 1 1 rfl x (by omega) w hM)
      have hid := onm_len 1 x
      have HOS : Hid ((ocs (1, onm 1 x, x)).toArray.size = 34) := ocs_sz hid
      have HOL : Hid ((ocs (1, onm 1 x, x)).length = 34) := ocs_len hid
      have HOS0 : Hid ((ocs (0, z32, [])).toArray.size = 34) := ocs_sz oz32
      have HOO : Hid (∀ v ∈ ovs [(1, onm 1 x, x)], v.oneCell' = true) := ovs_cells _
      generalize onm 1 x = id at HT HMK hid HOS HOL HOO
      clear ht hg hid
      go_wp2_with (first | (first | ((with_reducible refine at_load' ?_); (refine BigFrame.wpList_want (by rfl) fun K hK => ws_load1 hM rfl rfl (by (repeat (first | assumption | (with_reducible exact mZ) | apply mS)); first | done | fail) (by first | rfl | assumption) (by decide +kernel) (hK _ _ ?_); clear hK K)) | fail) | (first | ((with_reducible refine at_load' ?_); (refine BigFrame.wpList_want (by rfl) fun K hK => ws_rowload rfl rfl (by first | (apply Star.row hM; (repeat (first | assumption | (with_reducible exact mZ) | apply mS)); done) | (apply Star.own hM; (repeat (first | assumption | (with_reducible exact mZ) | apply mS)); done) | (apply Star.arr hM; (focus ((repeat (first | assumption | (with_reducible exact mZ) | apply mS)); done)); assumption)) (by assumption) (by kernel_rfl) (hK _ _ ?_); clear hK K)) | fail) | (go_at_call 32; have hM0 := hM; clear hM; (first | (with_reducible refine (HC.out _ _ hM0).mono ?_) | fail); clear hM0; rintro _ w ⟨rfl, hM⟩) | (go_at_call 35; have hM0 := hM; clear hM; (first | (with_reducible refine (HMK.out _ _ hM0).mono ?_) | fail); clear hM0; rintro _ w ⟨rfl, hM⟩) | (first | ((with_reducible refine at_alloc' ?_); (have hM0 := hM; clear hM; refine BigFrame.wpList_want (by rfl) fun K hK => ws_alloc hM0 (t := 75) rfl (ocs (0, z32, [])).toArray info_ob (fun g10 w hM => hK _ _ ?_); clear hM0 hK K)) | fail) | (first | ((with_reducible refine at_store' ?_); (have hM0 := hM; clear hM; refine BigFrame.wpList_want (by rfl) fun K hK => ws_store hM0 rfl rfl rfl (by (repeat (first | (with_reducible exact Take.head) | apply Take.tail)); first | done | fail) (n := 34) (by exact HOS.out) (by exact HOS0.out) (by kernel_rfl) (by exact ocs_oneA _) (fun w hM => hK _ _ ?_); clear hM0 hK K)) | fail) | (first | ((with_reducible refine at_load' ?_); (refine BigFrame.wpList_want (by rfl) fun K hK => ws_load hM rfl rfl (by (repeat (first | assumption | (with_reducible exact mZ) | apply mS)); first | done | fail) (n := 34) (by exact HOS.out) (by decide +kernel) (hK _ _ ?_); clear hK K)) | fail) | (first | ((with_reducible refine at_slice' ?_); (have hM0 := hM; clear hM; refine BigFrame.wpList_want (by rfl) fun K hK => ws_slice_row hM0 (n := 1) rfl 75 34 (.agg (ocs (0, z32, [])).toArray) [.agg (ocs (1, id, x)).toArray] Try.underlying63 (by kernel_rfl) rfl (by simp [Value.cells, iv, sv, bv, HOL.out]) (by rfl) (by decide) (cs := ovs [(1, id, x)]) (by rfl) (fun g30 w hM => hK _ _ ?_); clear hM0 hK K)) | fail) | ((first | ((with_reducible refine at_call' ?_); (have hM0 := hM; clear hM; refine BigFrame.wpList_want (by rfl) fun K hK => ws_append hM0 rfl rfl rfl 75 ((.agg (ocs (0, z32, [])).toArray)) 34 56 Try.underlying63 (by kernel_rfl) (by exact HOS0.out) (by decide) (by (repeat (first | (with_reducible exact Take.head) | apply Take.tail)); first | done | fail) (by first | (apply Star.row hM0; (repeat (first | assumption | (with_reducible exact mZ) | apply mS)); done) | (apply Star.own hM0; (repeat (first | assumption | (with_reducible exact mZ) | apply mS)); done) | (apply Star.arr hM0; (focus ((repeat (first | assumption | (with_reducible exact mZ) | apply mS)); done)); assumption)) (HOO.out) ((by omega)) (fun A1 c1 w hM hnil => hK _ _ ?_); clear hM0 hK K)) | fail); simp only [Act.put, List.setIfInBounds_toArray, List.set_cons_zero, List.set_cons_succ]))
      go_roundw
      case rel => exact ⟨k + 1, A1, c1, by omega, by omega, by go_num, rfl, by rw [HT.out]; exact hM.sel (by repeat (first | (with_reducible exact Sel.refl) | (with_reducible exact Take.head) | (with_reducible apply Take.tail) | (with_reducible apply Sel.cons) | (with_reducible apply Sel.drop)))⟩
      case measure => simp [intOf]; omega
    · have hm : (mts ts).length = k := by
        unfold mts
        rw [List.length_map, List.length_take, HL.out]
        omega
      have ht : ts.take 5 = ts.take k := by
        by_cases h5 : k = 5
        · rw [h5]
        · rw [List.take_of_length_le (by rw [HL.out]; omega), List.take_of_length_le (by rw [HL.out]; omega)]
      have HTK := Lib.hid ht
      have HM := Lib.hid hm
      clear ht hm
      rcases Nat.lt_or_ge k n with hlt | hge
      · obtain rfl : k = 5 := by omega
        go_wp2_with (first | (first | ((with_reducible refine at_load' ?_); (refine BigFrame.wpList_want (by rfl) fun K hK => ws_load1 hM rfl rfl (by (repeat (first | assumption | (with_reducible exact mZ) | apply mS)); first | done | fail) (by first | rfl | assumption) (by decide +kernel) (hK _ _ ?_); clear hK K)) | fail))
        go_ret
        rw [HM.out]
        refine ⟨B, ⟨e, rfl⟩, ?_⟩
        have h2 := hM.freeze
        rw [show mts ts = (ts.take 5).map cut150 from rfl]
        exact h2.sel (by repeat (first | (with_reducible exact Sel.refl) | (with_reducible exact Take.head) | (with_reducible apply Take.tail) | (with_reducible apply Sel.cons) | (with_reducible apply Sel.drop)))
      · obtain rfl : n = k := by omega
        go_wp2_with (first | (first | ((with_reducible refine at_load' ?_); (refine BigFrame.wpList_want (by rfl) fun K hK => ws_load1 hM rfl rfl (by (repeat (first | assumption | (with_reducible exact mZ) | apply mS)); first | done | fail) (by first | rfl | assumption) (by decide +kernel) (hK _ _ ?_); clear hK K)) | fail))
        go_ret
        rw [HM.out]
        refine ⟨B, e, rfl, ?_⟩
        have h2 := hM.freeze
        rw [show mts ts = (ts.take 5).map cut150 from rfl, HTK.out]
        exact h2.sel (by repeat (first | (with_reducible exact Sel.refl) | (with_reducible exact Take.head) | (with_reducible apply Take.tail) | (with_reducible apply Sel.cons) | (with_reducible apply Sel.drop)))
end
end Go.Proofs.Ytnckgkgilnmocaa
