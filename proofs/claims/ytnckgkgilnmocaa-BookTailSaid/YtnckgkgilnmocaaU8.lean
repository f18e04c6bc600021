/- What the laws share, part 8 (BkO, BlP, BlA, BlB, BrA, BrB, BtA, BtB, OpenT, OpenR, OpenQ). No condition but those that each theorem names. -/
import Derived.Test.YtnckgkgilnmocaaU1
import Derived.Test.YtnckgkgilnmocaaU3
import Derived.Test.YtnckgkgilnmocaaU7
import Derived.Deep.SlicePairs
set_option linter.unusedSimpArgs false
set_option linter.unusedVariables false
namespace Go.Proofs.Ytnckgkgilnmocaa
open Go.RowKit
attribute [local go_sem] extract_mid extract_drop bget bsize wrap64_u8 i64_u8 u64_u8 bappend
/-- What a sector says of a turn. -/
def Hd (s : List UInt8) (v : Nat) : Prop := (v = 0 ∧ s = zs64) ∨ (1 ≤ v ∧ s = pad64 (headT v))
structure OpenPre (D : Dsk) (h t : Nat) (rs : List Rc) : Prop where
  ok : D.ok
  armed : D.armed = false
  half : HalfOk D h
  most : t + 1 ≤ 1000000
  heads : ∃ v0 v1, Hd (D.nw 0) v0 ∧ Hd (D.nw 1) v1 ∧ max v0 v1 = t
  good : ∀ r ∈ rs, rcGood r
  fits : tot rs ≤ h
  emp : t = 0 → rs = []
  lay : t ≠ 0 → lies D.nw (frT h t) (seedT t) rs
  ends : t ≠ 0 → tot rs = h ∨ D.nw (frT h t + tot rs) = zs64
theorem RwPost.read {D D1 E : Dsk} {h u : Nat} {rs : List Rc} (p : RwPost D1 E h u rs) (r : RPost D D1) : RwPost D E h u rs where
  dk := by have := p.dk; rwa [r.sure] at this
  out i h1 h2 := by rw [p.out i h1 h2, r.nw]
  head := p.head
  lies := p.lies
  zero := p.zero
  su := p.su
  l := p.l
theorem RPost.trans {D D1 D2 : Dsk} (a : RPost D D1) (b : RPost D1 D2) : RPost D D2 := ⟨b.ok, b.sure.trans a.sure, b.armed.trans a.armed, fun i => (b.nw i).trans (a.nw i), fun i => (b.l i).trans (a.l i)⟩
section
variable {F L R : List SProp} {a : DA} {D : Dsk}
theorem parseT {s : List UInt8} {v : Nat} (h : Hd s v) (hv : v ≤ 1000000) (w : World) (hM : Star L w) : Calls Try.prog 43 #[.string ⟨s.toArray⟩] w fun r w' => r = .returned (.int .i64 (v : Int)) ∧ Star L w' := by
  rcases h with ⟨rfl, rfl⟩ | ⟨h1, rfl⟩
  · exact parse_no w hM
  · exact parse_ok h1 hv w hM
/-- The result of Open. -/
def OpenR (F : List SProp) (a : DA) (D : Dsk) (h u : Nat) (rs : List Rc) (r : Ending) (w' : World) : Prop := ∃ b D' A c g, Hid (RwPost D D' h u rs) ∧ r = .returned (.tuple #[bptr b, .slice A rs.length c, .int .i64 0]) ∧ Star (rowE 3 A rs.length (rvs (ats (frT h u) rs)) :: bkc b a u (esum (seedT u) rs) (frT h u + tot rs) (.map (some g)) :: pmE g (pms (frT h u) (seedT u) rs).reverse :: diskE a D' :: F) w'
set_option maxRecDepth 100000 in
set_option maxHeartbeats 32000000 in
theorem open_b {h t : Nat} {rs : List Rc} (hp : OpenPre D h t rs) (w : World) (hM : Star (diskE a D :: F) w) : Calls Try.prog 14 #[dptr a] w (OpenR F a D h (t + 1) rs) := by
  obtain ⟨v0, v1, hv0, hv1, hmx⟩ := hp.heads
  have hmost := hp.most
  have hH := hp.half
  have hle := hH.le
  have HP := Lib.hid hp
  have HR0 : Hid (∀ (E : Dsk), Hid (RPost D E) → ∀ (L R : List SProp) (w : World), Star L w → Take (diskE a E) L R → Calls Try.prog 42 #[dptr a, .int .i64 0, .int .i64 1] w fun r w' => ∃ D', Hid (RPost D D') ∧ r = .returned (.tuple #[.string ⟨(D.nw 0).toArray⟩, .int .i64 0]) ∧ Star (diskE a D' :: R) w') := fun E p L R w hM hx =>
    (readT 0 1 p.out.ok (p.out.armed.trans hp.armed) (by rw [p.out.sure]; omega) (s := D.nw 0) (by rw [← rdD_rd, rdD_one, p.out.nw]) w hM hx).mono fun r w' ⟨D', q, e, hM⟩ => ⟨D', p.out.trans q.out, e, hM⟩
  have HR1 : Hid (∀ (E : Dsk), Hid (RPost D E) → ∀ (L R : List SProp) (w : World), Star L w → Take (diskE a E) L R → Calls Try.prog 42 #[dptr a, .int .i64 1, .int .i64 1] w fun r w' => ∃ D', Hid (RPost D D') ∧ r = .returned (.tuple #[.string ⟨(D.nw 1).toArray⟩, .int .i64 0]) ∧ Star (diskE a D' :: R) w') := fun E p L R w hM hx =>
    (readT 1 1 p.out.ok (p.out.armed.trans hp.armed) (by rw [p.out.sure]; omega) (s := D.nw 1) (by rw [← rdD_rd, rdD_one, p.out.nw]) w hM hx).mono fun r w' ⟨D', q, e, hM⟩ => ⟨D', p.out.trans q.out, e, hM⟩
  have HP0 : Hid (∀ (L : List SProp) (w : World), Star L w → Calls Try.prog 43 #[.string ⟨(D.nw 0).toArray⟩] w fun r w' => r = .returned (.int .i64 (v0 : Int)) ∧ Star L w') := fun L w hM => parseT hv0 (by omega) w hM
  have HP1 : Hid (∀ (L : List SProp) (w : World), Star L w → Calls Try.prog 43 #[.string ⟨(D.nw 1).toArray⟩] w fun r w' => r = .returned (.int .i64 (v1 : Int)) ∧ Star L w') := fun L w hM => parseT hv1 (by omega) w hM
  generalize D.nw 0 = s0 at HR0 HP0 hv0
  generalize D.nw 1 = s1 at HR1 HP1 hv1
  have HHALF : Hid (∀ (L : List SProp) (b : Nat) (w : World), Star L w → bkc b a 0 [] 0 (.map none) ∈ L → diskE a D ∈ L → Calls Try.prog 41 #[bptr b] w fun r w' => r = .returned (.int .i64 (h : Int)) ∧ Star L w') := fun L b w hM hb hd => halfT hH w hM hb hd
  have HBEG : Hid (∀ (E : Dsk), Hid (RPost D E) → ∀ (L R : List SProp) (b : Nat) (w : World), Star L w → Take (bkc b a 0 [] 0 (.map none)) L R → diskE a E ∈ R → Calls Try.prog 44 #[bptr b, .int .i64 (t : Int)] w fun r w' => r = .returned (.tuple #[]) ∧ ∃ g, Star (bkc b a t (seedT t) (frT h t) (.map (some g)) :: mapE Try.prog 3 g [] :: R) w') := fun E p L R b w hM hx hd => begin_b (hH.same (by rw [p.out.sure])) (by omega) w hM hx hd
  have hh1 : ¬ ((h : Int) < 1) := by omega
  have hm0 : (if (0 : Int) < (v0 : Int) then (v0 : Int) else 0) = (v0 : Int) := by split <;> omega
  have hm0b : (if 0 < v0 then (v0 : Int) else 0) = (v0 : Int) := by split <;> omega
  have hm1 : (if (v0 : Int) < (v1 : Int) then (v1 : Int) else (v0 : Int)) = (t : Int) := by split <;> omega
  have hm1b : (if v0 < v1 then (v1 : Int) else (v0 : Int)) = (t : Int) := by split <;> omega
  have hm1c : max (v0 : Int) (v1 : Int) = (t : Int) := by omega
  have hm0c : max (0 : Int) (v0 : Int) = (v0 : Int) := by omega
  have HMX := Lib.hid hmx
  have hh4 : h ≤ 40000 := hle.2.2
  clear hp hv0 hv1 hmx hle hH
  have tok1 : True := trivial
  go_enter Try.func14, Try.ntmps14
  go_wp2_with (first | (first | ((with_reducible refine at_box' ?_); (have hM0 := hM; clear hM; refine BigFrame.wpList_want (by rfl) fun K hK => ws_box hM0 rfl rfl (cs := bkC a 0 [] 0 (.map none)) rfl (fun b w hM => hK _ _ ?_); clear hM0 hK K)) | fail) | (go_at_call 41; have hM0 := hM; clear hM; (first | (with_reducible refine (HHALF.out _ b _ hM0 (by (repeat (first | assumption | (with_reducible exact mZ) | apply mS)); first | done | fail) (by (repeat (first | assumption | (with_reducible exact mZ) | apply mS)); first | done | fail)).mono ?_) | fail); clear hM0; rintro _ w ⟨rfl, hM⟩))
  go_loopw [6, 20] (fun tv i wr => ∃ (j tt : Nat) (E : Dsk), j ≤ 2 ∧ i = .int .i64 j ∧ tv = .int .i64 tt ∧ Hid ((j = 0 ∧ tt = 0) ∨ (j = 1 ∧ tt = v0) ∨ (j = 2 ∧ tt = t)) ∧ Hid (RPost D E) ∧ Star (bkc b a 0 [] 0 (.map none) :: diskE a E :: F) wr) (fun _ i _ => 2 - (intOf i).toNat)
  case atStart => exact ⟨0, 0, D, by omega, rfl, rfl, .inl ⟨rfl, rfl⟩, ⟨HP.out.ok, rfl, rfl, fun _ => rfl, fun _ => rfl⟩, hM⟩
  case round =>
    clear hM
    obtain ⟨j, tt, E, hj, rfl, rfl, hjt, hE, hM⟩ := hrel
    obtain ⟨rfl, rfl⟩ | ⟨rfl, rfl⟩ | ⟨rfl, rfl⟩ := hjt.out
    · go_wp2_with (first | (go_at_call 42; have hM0 := hM; clear hM; (first | (with_reducible refine (HR0.out E hE _ _ _ hM0 (by (repeat (first | (with_reducible exact Take.head) | apply Take.tail)); first | done | fail)).mono ?_) | fail); clear hM0; rintro _ w ⟨E1, hE1, rfl, hM⟩) | (go_at_call 43; have hM0 := hM; clear hM; (first | (with_reducible refine (HP0.out _ _ hM0).mono ?_) | fail); clear hM0; rintro _ w ⟨rfl, hM⟩))
      go_roundw
      case rel => exact ⟨1, v0, E1, by omega, by go_num, rfl, .inr (.inl ⟨rfl, rfl⟩), hE1, hM.sel (by repeat (first | (with_reducible exact Sel.refl) | (with_reducible exact Take.head) | (with_reducible apply Take.tail) | (with_reducible apply Sel.cons) | (with_reducible apply Sel.drop)))⟩
      case measure => simp [intOf]
    · go_wp2_with (first | (go_at_call 42; have hM0 := hM; clear hM; (first | (with_reducible refine (HR1.out E hE _ _ _ hM0 (by (repeat (first | (with_reducible exact Take.head) | apply Take.tail)); first | done | fail)).mono ?_) | fail); clear hM0; rintro _ w ⟨E1, hE1, rfl, hM⟩) | (go_at_call 43; have hM0 := hM; clear hM; (first | (with_reducible refine (HP1.out _ _ hM0).mono ?_) | fail); clear hM0; rintro _ w ⟨rfl, hM⟩))
      go_roundw
      case rel => exact ⟨2, t, E1, by omega, by go_num, rfl, .inr (.inr ⟨rfl, rfl⟩), hE1, hM.sel (by repeat (first | (with_reducible exact Sel.refl) | (with_reducible exact Take.head) | (with_reducible apply Take.tail) | (with_reducible apply Sel.cons) | (with_reducible apply Sel.drop)))⟩
      case measure => simp [intOf]
    · rcases Nat.eq_zero_or_pos tt with h0 | h0
      · subst h0
        obtain rfl : rs = [] := HP.out.emp rfl
        have HRW : Hid (∀ (g0 : Nat) (L R1 R2 : List SProp) (b : Nat) (w : World), Star L w → Take (bkc b a 0 (seedT 0) (frT h 0) (.map (some g0))) L R1 → Take (diskE a E) R1 R2 → Calls Try.prog 46 #[bptr b, .slice none 0 0] w fun r w' => ∃ D' A' c' g, Hid (RwPost D D' h 1 []) ∧ r = .returned (.tuple #[.slice A' 0 c', .int .i64 0]) ∧ Star (rowE 3 A' 0 (rvs (ats (frT h 1) [])) :: bkc b a 1 (esum (seedT 1) []) (frT h 1 + tot []) (.map (some g)) :: pmE g (pms (frT h 1) (seedT 1) []).reverse :: diskE a D' :: R2) w') := fun g0 L R1 R2 b w hM h1 h2 => by
          have hr := (hM.pull2b h1 h2).nilrow 3
          have hM2 : Star (bkc b a 0 (seedT 0) (frT h 0) (.map (some g0)) :: diskE a E :: rowE 3 none 0 [] :: R2) w := hr.sel (by repeat (first | (with_reducible exact Sel.refl) | (with_reducible exact Take.head) | (with_reducible apply Take.tail) | (with_reducible apply Sel.cons) | (with_reducible apply Sel.drop)))
          refine (rewrite_b (xs := []) hE.out.ok (HP.out.half.same (by rw [hE.out.sure])) (hE.out.armed.trans HP.out.armed) (by omega) (by simp) (by simp [tot]) w hM2 List.mem_cons_self).mono ?_
          rintro r w' ⟨D', A', c', g, q, e, hM⟩
          have hM3 : Star (rowE 3 A' 0 (rvs (ats (frT h 1) [])) :: bkc b a 1 (esum (seedT 1) []) (frT h 1 + tot []) (.map (some g)) :: pmE g (pms (frT h 1) (seedT 1) []).reverse :: diskE a D' :: rowE 3 none 0 [] :: R2) w' := hM
          exact ⟨D', A', c', g, q.out.read hE.out, e, hM3.sel (by repeat (first | (with_reducible exact Sel.refl) | (with_reducible exact Take.head) | (with_reducible apply Take.tail) | (with_reducible apply Sel.cons) | (with_reducible apply Sel.drop)))⟩
        have HBEG0 : Hid (∀ (L R : List SProp) (b : Nat) (w : World), Star L w → Take (bkc b a 0 [] 0 (.map none)) L R → diskE a E ∈ R → Calls Try.prog 44 #[bptr b, .int .i64 0] w fun r w' => r = .returned (.tuple #[]) ∧ ∃ g, Star (bkc b a 0 (seedT 0) (frT h 0) (.map (some g)) :: mapE Try.prog 3 g [] :: R) w') := HBEG.out E hE
        clear HBEG
        go_wp2_with (first | (go_at_call 44; have hM0 := hM; clear hM; (first | (with_reducible refine (HBEG0.out _ _ b _ hM0 (by (repeat (first | (with_reducible exact Take.head) | apply Take.tail)); first | done | fail) (by (repeat (first | assumption | (with_reducible exact mZ) | apply mS)); first | done | fail)).mono ?_) | fail); clear hM0; rintro _ w ⟨rfl, g, hM⟩) | (go_at_call 46; have hM0 := hM; clear hM; (first | (with_reducible refine (HRW.out g _ _ _ b _ hM0 (by (repeat (first | (with_reducible exact Take.head) | apply Take.tail)); first | done | fail) (by (repeat (first | (with_reducible exact Take.head) | apply Take.tail)); first | done | fail)).mono ?_) | fail); clear hM0; rintro _ w ⟨D2, A2, c2, g2, h2, rfl, hM⟩))
        go_ret3
        have hM3 : Star (rowE 3 A2 0 (rvs (ats (frT h 1) [])) :: bkc b a 1 (esum (seedT 1) []) (frT h 1 + tot []) (.map (some g2)) :: pmE g2 (pms (frT h 1) (seedT 1) []).reverse :: diskE a D2 :: F) _ := hM.sel (by repeat (first | (with_reducible exact Sel.refl) | (with_reducible exact Take.head) | (with_reducible apply Take.tail) | (with_reducible apply Sel.cons) | (with_reducible apply Sel.drop)))
        exact ⟨b, D2, A2, c2, g2, h2, rfl, hM3⟩
      · have HSC : Hid (∀ (g0 : Nat) (L R1 R2 : List SProp) (b : Nat) (w : World), Star L w → Take (bkc b a tt (seedT tt) (frT h tt) (.map (some g0))) L R1 → Take (diskE a E) R1 R2 → Calls Try.prog 45 #[bptr b, .int .i64 (tt : Int)] w fun r w' => ∃ D' A c g, Hid (RPost D D') ∧ r = .returned (.tuple #[.slice A rs.length c, .int .i64 0]) ∧ Star (rowE 3 A rs.length (rvs (ats (frT h tt) rs)) :: bkc b a tt (esum (seedT tt) rs) (frT h tt + tot rs) (.map (some g)) :: mapE Try.prog 3 g [] :: diskE a D' :: R2) w') := fun g0 L R1 R2 b w hM h1 h2 => by
          refine (scan_b (rs := rs) hE.out.ok (HP.out.half.same (by rw [hE.out.sure])) (hE.out.armed.trans HP.out.armed) (by omega) HP.out.good (lies_congr (fun i _ _ => (hE.out.nw i).symm) (HP.out.lay (by omega))) HP.out.fits (by rw [hE.out.nw]; exact HP.out.ends (by omega)) w (hM.pull2b h1 h2)).mono ?_
          rintro r w' ⟨D', A', c', g, q, e, hM⟩
          exact ⟨D', A', c', g, hE.out.trans q.out, e, hM⟩
        have HRW : Hid (∀ (E1 : Dsk), Hid (RPost D E1) → ∀ (g0 : Nat) (A : Option Addr) (c : Nat) (L R1 R2 : List SProp) (b : Nat) (w : World), Star L w → Take (bkc b a tt (esum (seedT tt) rs) (frT h tt + tot rs) (.map (some g0))) L R1 → Take (diskE a E1) R1 R2 → rowE 3 A rs.length (rvs (ats (frT h tt) rs)) ∈ R2 → Calls Try.prog 46 #[bptr b, .slice A rs.length c] w fun r w' => ∃ D' A' c' g, Hid (RwPost D D' h (tt + 1) rs) ∧ r = .returned (.tuple #[.slice A' rs.length c', .int .i64 0]) ∧ Star (rowE 3 A' rs.length (rvs (ats (frT h (tt + 1)) rs)) :: bkc b a (tt + 1) (esum (seedT (tt + 1)) rs) (frT h (tt + 1) + tot rs) (.map (some g)) :: pmE g (pms (frT h (tt + 1)) (seedT (tt + 1)) rs).reverse :: diskE a D' :: R2) w') := fun E1 hE1 g0 A c L R1 R2 b w hM h1 h2 hr => by
          have := rewrite_b (c := c) (xs := ats (frT h tt) rs) hE1.out.ok (HP.out.half.same (by rw [hE1.out.sure])) (hE1.out.armed.trans HP.out.armed) hmost (by rw [ats_fst]; exact HP.out.good) (by rw [ats_fst]; exact HP.out.fits) w (hM.pull2b h1 h2) hr
          rw [ats_fst] at this
          refine this.mono ?_
          rintro r w' ⟨D', A', c', g, q, e, hM⟩
          exact ⟨D', A', c', g, q.out.read hE1.out, e, hM⟩
        have h0i : (0 : Int) < (tt : Int) := by omega
        go_wp2_with (first | (go_at_call 44; have hM0 := hM; clear hM; (first | (with_reducible refine (HBEG.out E hE _ _ b _ hM0 (by (repeat (first | (with_reducible exact Take.head) | apply Take.tail)); first | done | fail) (by (repeat (first | assumption | (with_reducible exact mZ) | apply mS)); first | done | fail)).mono ?_) | fail); clear hM0; rintro _ w ⟨rfl, g, hM⟩) | (go_at_call 45; have hM0 := hM; clear hM; (first | (with_reducible refine (HSC.out g _ _ _ b _ hM0 (by (repeat (first | (with_reducible exact Take.head) | apply Take.tail)); first | done | fail) (by (repeat (first | (with_reducible exact Take.head) | apply Take.tail)); first | done | fail)).mono ?_) | fail); clear hM0; rintro _ w ⟨E1, A1, c1, g1, hE1, rfl, hM⟩) | (go_at_call 46; have hM0 := hM; clear hM; (first | (with_reducible refine (HRW.out E1 hE1 g1 A1 c1 _ _ _ b _ hM0 (by (repeat (first | (with_reducible exact Take.head) | apply Take.tail)); first | done | fail) (by (repeat (first | (with_reducible exact Take.head) | apply Take.tail)); first | done | fail) (by (repeat (first | assumption | (with_reducible exact mZ) | apply mS)); first | done | fail)).mono ?_) | fail); clear hM0; rintro _ w ⟨D2, A2, c2, g2, h2, rfl, hM⟩))
        go_ret3
        unfold OpenR
        exact ⟨b, D2, A2, c2, g2, h2, rfl, hM.sel (by repeat (first | (with_reducible exact Sel.refl) | (with_reducible exact Take.head) | (with_reducible apply Take.tail) | (with_reducible apply Sel.cons) | (with_reducible apply Sel.drop)))⟩
end
end Go.Proofs.Ytnckgkgilnmocaa
set_option linter.unusedSimpArgs false
set_option linter.unusedVariables false
namespace Go.Proofs.Ytnckgkgilnmocaa
open Go.RowKit
structure Live (N : Nat) (D : Dsk) (h t m : Nat) (rs : List Rc) : Prop where
  dk : Dk N D
  half : HalfOk D h
  t1 : 1 ≤ t
  head : D.nw (t % 2) = pad64 (headT t)
  other : ∃ v, v < t ∧ Hd (D.nw ((t + 1) % 2)) v
  good : ∀ r ∈ rs, rcGood r
  fits : tot rs ≤ h
  msure : m ≤ tot rs
  lay : lies D.nw (frT h t) (seedT t) rs
  zero : ∀ i, frT h t + tot rs ≤ i → i < frT h t + h → D.nw i = zs64
  loose : ∀ i, D.l i = decide (frT h t + m ≤ i ∧ i < frT h t + tot rs)
  sure : ∀ i, i < N → ¬ (frT h t + m ≤ i ∧ i < frT h t + tot rs) → D.su i = D.nw i
  szero : ∀ i, frT h t + m ≤ i → i < frT h t + h → D.su i = zs64
theorem Live.fit {N : Nat} {D : Dsk} {h t m : Nat} {rs : List Rc} (L : Live N D h t m rs) : frT h t + h ≤ N := by
  have := L.half.le
  have := frT_le h t
  have := L.dk.len
  omega
theorem Live.start {D E : Dsk} {h t : Nat} {rs : List Rc} (P : OpenPre D h t rs) (p : RwPost D E h (t + 1) rs) : Live D.sure.length E h (t + 1) (tot rs) rs where
  dk := p.dk
  half := P.half.same p.dk.len
  t1 := by omega
  head := p.head
  other := by
    obtain ⟨v0, v1, h0, h1, hm⟩ := P.heads
    have hz := fr_ge h (t + 1)
    have e : E.nw ((t + 1 + 1) % 2) = D.nw ((t + 1 + 1) % 2) := p.out _ (by omega) (by omega)
    rw [e]
    rcases Nat.mod_two_eq_zero_or_one (t + 1 + 1) with h2 | h2
    · rw [h2]; exact ⟨v0, by omega, h0⟩
    · rw [h2]; exact ⟨v1, by omega, h1⟩
  good := P.good
  fits := P.fits
  msure := Nat.le_refl _
  lay := p.lies
  zero := p.zero
  loose i := by rw [p.l]; simp
  sure i _ _ := p.su i
  szero i h1 h2 := by rw [p.su]; exact p.zero i h1 h2
theorem Live.append {N : Nat} {E E' : Dsk} {h t m : Nat} {rs : List Rc} {r : Rc} (L : Live N E h t m rs) (hg : rcGood r) (ht : tot rs + rcost r ≤ h) (p : WPost E E' (frT h t + tot rs) (spl (rtxt (esum (seedT t) rs) r) (rcost r))) : Live N E' h t m (rs ++ [r]) := by
  have hz := fr_ge h t
  have htt : tot (rs ++ [r]) = tot rs + rcost r := by rw [tot_app]; simp [tot]
  have hc := bcost_pos r.2.length
  have hcr : 1 ≤ rcost r := hc
  have hms := L.msure
  have hsl := spl_len (rtxt (esum (seedT t) rs) r) (rcost r)
  have hnw : ∀ i, ¬ (frT h t + tot rs ≤ i ∧ i < frT h t + tot rs + rcost r) → E'.nw i = E.nw i := fun i hi => by rw [p.nw, hsl, if_neg hi]
  have hsu : ∀ i, E'.su i = E.su i := fun i => by unfold Dsk.su; rw [p.sure]
  exact {
    dk := L.dk.write p
    half := L.half.same (by rw [p.sure])
    t1 := L.t1
    head := by rw [hnw _ (by omega)]; exact L.head
    other := by rw [hnw _ (by omega)]; exact L.other
    good := fun x hx => by
      rcases List.mem_append.1 hx with hx | hx
      · exact L.good x hx
      · rw [List.mem_singleton.1 hx]; exact hg
    fits := by omega
    msure := by omega
    lay := by
      rw [lies_app]
      refine ⟨lies_congr (fun i h1 h2 => (hnw i (by omega)).symm) L.lay, ?_, trivial⟩
      have hl := rtxt_len hg (esum (seedT t) rs)
      refine rd_spl (rcost_eq hg _) (by omega) fun i hi => ?_
      rw [p.nw, hsl, if_pos ⟨by omega, by omega⟩, Nat.add_sub_cancel_left]
    zero := fun i h1 h2 => by rw [hnw i (by omega)]; exact L.zero i (by omega) h2
    loose := fun i => by
      rw [p.l, hsl, L.loose, htt, Bool.eq_iff_iff]
      simp only [Bool.or_eq_true, decide_eq_true_eq]
      omega
    sure := fun i h1 h2 => by rw [hsu, hnw i (by omega)]; exact L.sure i h1 (by omega)
    szero := fun i h1 h2 => by rw [hsu]; exact L.szero i h1 h2 }
theorem Live.sync {N : Nat} {E E' : Dsk} {h t m : Nat} {rs : List Rc} (L : Live N E h t m rs) (p : SPost E E') : Live N E' h t (tot rs) rs where
  dk := L.dk.sync p
  half := L.half.same p.len
  t1 := L.t1
  head := by rw [p.nw]; exact L.head
  other := by rw [p.nw]; exact L.other
  good := L.good
  fits := L.fits
  msure := Nat.le_refl _
  lay := lies_congr (fun i _ _ => (p.nw i).symm) L.lay
  zero i h1 h2 := by rw [p.nw]; exact L.zero i h1 h2
  loose i := by rw [p.l]; simp
  sure i _ _ := by rw [p.su, p.nw]
  szero i h1 h2 := by rw [p.su]; exact L.zero i h1 h2
theorem heads_of {D : Dsk} {t : Nat} (h1 : 1 ≤ t) (h : D.nw (t % 2) = pad64 (headT t)) (o : ∃ v, v < t ∧ Hd (D.nw ((t + 1) % 2)) v) : ∃ v0 v1, Hd (D.nw 0) v0 ∧ Hd (D.nw 1) v1 ∧ max v0 v1 = t := by
  obtain ⟨v, hv, ho⟩ := o
  rcases Nat.mod_two_eq_zero_or_one t with h2 | h2
  · rw [h2] at h
    rw [show (t + 1) % 2 = 1 by omega] at ho
    exact ⟨t, v, .inr ⟨h1, h⟩, ho, by omega⟩
  · rw [h2] at h
    rw [show (t + 1) % 2 = 0 by omega] at ho
    exact ⟨v, t, ho, .inr ⟨h1, h⟩, by omega⟩
theorem Live.pre {N : Nat} {D : Dsk} {h t m : Nat} {rs : List Rc} (L : Live N D h t m rs) (ht : t + 1 ≤ 1000000) : OpenPre D h t rs where
  ok := L.dk.ok
  armed := L.dk.armed
  half := L.half
  most := ht
  heads := heads_of L.t1 L.head L.other
  good := L.good
  fits := L.fits
  emp h0 := by have := L.t1; omega
  lay _ := L.lay
  ends _ := by
    by_cases e : tot rs = h
    · exact .inl e
    · exact .inr (L.zero _ (Nat.le_refl _) (by have := L.fits; omega))
/-- A new disk. -/
theorem NPost.pre {D : Dsk} {N : Nat} (p : NPost D N) (h1 : 4 ≤ N) (h2 : N ≤ 65536) : OpenPre D ((N - 2) / 2) 0 [] where
  ok := p.ok
  armed := p.armed
  half := ⟨by rw [p.len]; exact h1, by rw [p.len]; exact h2, by rw [p.len]⟩
  most := by omega
  heads := ⟨0, 0, .inl ⟨rfl, p.nw 0 (by omega)⟩, .inl ⟨rfl, p.nw 1 (by omega)⟩, rfl⟩
  good r hr := by cases hr
  fits := Nat.zero_le _
  emp _ := rfl
  lay h := absurd rfl h
  ends h := absurd rfl h
theorem filter_iv (a b : Nat) (hab : a ≤ b) (N : Nat) : b ≤ N → (List.range N).filter (fun i => decide (a ≤ i ∧ i < b)) = List.range' a (b - a) := by
  induction N generalizing b with
  | zero => intro h; obtain rfl : b = 0 := by omega
            obtain rfl : a = 0 := by omega
            rfl
  | succ N ih =>
    intro h
    rw [List.range_succ, List.filter_append]
    by_cases e : b ≤ N
    · rw [ih b hab e, List.filter_cons_of_neg (by simp; omega)]
      simp
    · obtain rfl : b = N + 1 := by omega
      by_cases e2 : a ≤ N
      · have h1 : (List.range N).filter (fun i => decide (a ≤ i ∧ i < N + 1)) = (List.range N).filter (fun i => decide (a ≤ i ∧ i < N)) := List.filter_congr fun i hi => by
          have := List.mem_range.1 hi
          simp only [decide_eq_decide]; omega
        rw [h1, ih N e2 (Nat.le_refl _), List.filter_cons_of_pos (by simp; omega), List.filter_nil, show N + 1 - a = (N - a) + 1 by omega, List.range'_concat]
        congr 2
        simp; omega
      · obtain rfl : a = N + 1 := by omega
        rw [List.filter_eq_nil_iff.2 (fun i hi => by have := List.mem_range.1 hi; simp), List.filter_cons_of_neg (by simp)]
        simp
theorem keys_iv {D : Dsk} {a b : Nat} (hab : a ≤ b) (hb : b ≤ D.sure.length) (h : ∀ i, D.l i = decide (a ≤ i ∧ i < b)) {i : Nat} (h1 : a ≤ i) (h2 : i < b) : D.keys[i - a]? = some i := by
  unfold Dsk.keys
  rw [show D.l = fun i => decide (a ≤ i ∧ i < b) from funext h, filter_iv a b hab _ hb, List.getElem?_range' (by omega)]
  simp; omega
theorem Live.crash {N : Nat} {D E : Dsk} {h t m : Nat} {rs pre post : List Rc} {ch : List Int} (L : Live N D h t m rs) (p : CPost D E ch) (hrs : rs = pre ++ post) (hm : m ≤ tot pre) (h64 : ∀ j, j < tot pre - m → chN ch j = 64) (h0 : post ≠ [] → chN ch (tot pre - m) = 0) (ht : t + 1 ≤ 1000000) : OpenPre E h t pre := by
  have hz := fr_ge h t
  have hfit := L.fit
  have hfs := L.fits
  have htt : tot rs = tot pre + tot post := by rw [hrs, tot_app]
  have hlen := L.dk.len
  have hcalm : ∀ i, i < N → ¬ (frT h t + m ≤ i ∧ i < frT h t + tot rs) → E.nw i = D.nw i := fun i hi hn => by
    rw [p.nw, p.calm i (by rw [L.loose]; exact decide_eq_false hn) (by omega)]
    exact L.sure i hi hn
  have hkey : ∀ i, frT h t + m ≤ i → i < frT h t + tot rs → D.keys[i - (frT h t + m)]? = some i := fun i h1 h2 => keys_iv (a := frT h t + m) (b := frT h t + tot rs) (by have := L.msure; omega) (by omega) L.loose h1 h2
  have hkeep : ∀ i, i < frT h t + tot pre → i < N → E.nw i = D.nw i := fun i h1 hi => by
    by_cases h2 : frT h t + m ≤ i
    · rw [p.nw, p.torn i _ (hkey i h2 (by omega))]
      unfold crB
      rw [h64 _ (by omega), List.take_of_length_le (by rw [nw_len L.dk.ok (by omega)]; omega), List.drop_of_length_le (by rw [su_len L.dk.ok (by omega)]; omega), List.append_nil]
    · exact hcalm i hi (by omega)
  have hlay : lies D.nw (frT h t) (seedT t) pre := by
    have := L.lay
    rw [hrs] at this
    exact (lies_app.1 this).1
  exact {
    ok := p.ok
    armed := p.armed
    half := L.half.same p.len
    most := ht
    heads := heads_of L.t1 (by rw [hkeep _ (by omega) (by omega)]; exact L.head) (by rw [hkeep _ (by omega) (by omega)]; exact L.other)
    good := fun r hr => L.good r (by rw [hrs]; exact List.mem_append_left _ hr)
    fits := by omega
    emp := fun e => by have := L.t1; omega
    lay := fun _ => lies_congr (fun i h1 h2 => (hkeep i h2 (by omega)).symm) hlay
    ends := fun _ => by
      by_cases e : tot pre = h
      · exact .inl e
      · refine .inr ?_
        rcases post with _ | ⟨r, post⟩
        · have e2 : tot rs = tot pre := by rw [htt]; simp [tot]
          rw [hcalm _ (by omega) (by omega)]
          exact L.zero _ (by omega) (by omega)
        · have hc := bcost_pos r.2.length
          rw [tot_cons] at htt
          have hcr : 1 ≤ rcost r := hc
          rw [p.nw, p.torn _ _ (hkey (frT h t + tot pre) (by omega) (by omega)), show frT h t + tot pre - (frT h t + m) = tot pre - m by omega]
          unfold crB
          rw [h0 (by simp)]
          exact L.szero _ (by omega) (by omega) }
end Go.Proofs.Ytnckgkgilnmocaa
set_option linter.unusedSimpArgs false
set_option linter.unusedVariables false
namespace Go.Proofs.Ytnckgkgilnmocaa
open Go.RowKit
attribute [local go_sem] extract_mid extract_drop bget bsize wrap64_u8 i64_u8 u64_u8 bappend
/-- Where a book lies. -/
structure BA where
  b : Nat
  g : Nat
  a : DA
/-- A book under way, as one part. -/
def bookE (B : BA) (D : Dsk) (t : Nat) (h : Nat) (rs : List Rc) : SProp := joinE [bkc B.b B.a t (esum (seedT t) rs) (frT h t + tot rs) (.map (some B.g)), pmE B.g (pms (frT h t) (seedT t) rs).reverse, diskE B.a D]
theorem Star.bopen {B : BA} {D : Dsk} {t h : Nat} {rs : List Rc} {L : List SProp} {w : World} (H : Star (bookE B D t h rs :: L) w) : Star (bkc B.b B.a t (esum (seedT t) rs) (frT h t + tot rs) (.map (some B.g)) :: pmE B.g (pms (frT h t) (seedT t) rs).reverse :: diskE B.a D :: L) w := H.openL
theorem Star.bjoin {B : BA} {D : Dsk} {t h : Nat} {rs : List Rc} {L : List SProp} {w : World} (H : Star (bkc B.b B.a t (esum (seedT t) rs) (frT h t + tot rs) (.map (some B.g)) :: pmE B.g (pms (frT h t) (seedT t) rs).reverse :: diskE B.a D :: L) w) : Star (bookE B D t h rs :: L) w :=
  Star.joinL (l := [bkc B.b B.a t (esum (seedT t) rs) (frT h t + tot rs) (.map (some B.g)), pmE B.g (pms (frT h t) (seedT t) rs).reverse, diskE B.a D]) H (by
    intro x hx
    simp only [List.mem_cons, List.not_mem_nil, or_false] at hx
    rcases hx with rfl | rfl | rfl <;> rfl)
section
variable {L R F : List SProp} {B : BA} {N h t m : Nat} {D : Dsk} {rs : List Rc}
/-- A book is opened. -/
def OpenB (F : List SProp) (a : DA) (N h u : Nat) (rs : List Rc) (r : Ending) (w' : World) : Prop := ∃ (B : BA) (D' : Dsk) (A : Option Addr) (c : Nat), B.a = a ∧ Hid (Live N D' h u (tot rs) rs) ∧ r = .returned (.tuple #[bptr B.b, .slice A rs.length c, .int .i64 0]) ∧ Star (rowE 3 A rs.length (rvs (ats (frT h u) rs)) :: bookE B D' u h rs :: F) w'
theorem open_u {a : DA} (P : OpenPre D h t rs) (hN : D.sure.length = N) (w : World) (hM : Star L w) (hx : Take (diskE a D) L R) : Calls Try.prog 14 #[dptr a] w (OpenB R a N h (t + 1) rs) := by
  refine (open_b P w (hM.take hx)).mono ?_
  rintro r w' ⟨b, D', A, c, g, p, rfl, hM⟩
  subst hN
  refine ⟨⟨b, g, a⟩, D', A, c, rfl, Live.start P p.out, rfl, ?_⟩
  have h2 : Star (bookE ⟨b, g, a⟩ D' (t + 1) h rs :: rowE 3 A rs.length (rvs (ats (frT h (t + 1)) rs)) :: R) w' := Star.bjoin (hM.sel (by repeat (first | (with_reducible exact Sel.refl) | (with_reducible exact Take.head) | (with_reducible apply Take.tail) | (with_reducible apply Sel.cons) | (with_reducible apply Sel.drop))))
  exact h2.sel (by repeat (first | (with_reducible exact Sel.refl) | (with_reducible exact Take.head) | (with_reducible apply Take.tail) | (with_reducible apply Sel.cons) | (with_reducible apply Sel.drop)))
theorem left_u (V : Hid (Live N D h t m rs)) (ht : t ≤ 1000000) (w : World) (hM : Star L w) (hx : bookE B D t h rs ∈ L) : Calls Try.prog 20 #[bptr B.b] w fun r w' => r = .returned (.int .i64 ((h - tot rs : Nat) : Int)) ∧ Star L w' :=
  hM.stays hx fun R hR => by
    have hf := V.out.fits
    refine (left_b (e := frT h t + tot rs) V.out.half ht (by omega) w hR.bopen List.mem_cons_self (List.mem_cons_of_mem _ (List.mem_cons_of_mem _ List.mem_cons_self))).mono ?_
    rintro r w' ⟨rfl, hM⟩
    exact ⟨by rw [show frT h t + h - (frT h t + tot rs) = h - tot rs by omega], hM.bjoin⟩
theorem turn_u (w : World) (hM : Star L w) (hx : bookE B D t h rs ∈ L) : Calls Try.prog 15 #[bptr B.b] w fun r w' => r = .returned (.int .i64 (t : Int)) ∧ Star L w' :=
  hM.stays hx fun R hR => (turn_b w hR.bopen List.mem_cons_self).mono fun r w' ⟨e, hM⟩ => ⟨e, hM.bjoin⟩
theorem sync_bu (V : Hid (Live N D h t m rs)) (w : World) (hM : Star L w) (hx : Take (bookE B D t h rs) L R) : Calls Try.prog 13 #[dptr B.a] w fun r w' => ∃ D', Hid (Live N D' h t (tot rs) rs) ∧ r = .returned (.int .i64 0) ∧ Star (bookE B D' t h rs :: R) w' := by
  refine (sync_u (a := B.a) V.out.dk.ok V.out.dk.armed w ((hM.take hx).bopen.sel (by exact .cons (.tail (.tail .head)) (.cons .head (.cons .head .refl))))).mono ?_
  rintro r w' ⟨D', p, e, hM⟩
  exact ⟨D', V.out.sync p.out, e, Star.bjoin (hM.sel (by repeat (first | (with_reducible exact Sel.refl) | (with_reducible exact Take.head) | (with_reducible apply Take.tail) | (with_reducible apply Sel.cons) | (with_reducible apply Sel.drop))))⟩
theorem append_u {k : Nat} {d : List UInt8} (V : Hid (Live N D h t m rs)) (hg : rcGood (k, d)) (ht : t ≤ 1000000) (hf : tot rs + bcost d.length ≤ h) (w : World) (hM : Star L w) (hx : Take (bookE B D t h rs) L R) : Calls Try.prog 12 #[bptr B.b, .int .i64 (k : Int), .string ⟨d.toArray⟩] w fun r w' => ∃ D', Hid (Live N D' h t m (rs ++ [(k, d)])) ∧ r = .returned (.tuple #[.agg (rcC k d (frT h t + tot rs)), .int .i64 0]) ∧ Star (bookE B D' t h (rs ++ [(k, d)]) :: R) w' := by
  have V := V.out
  refine (append_b hg V.dk.ok V.half V.dk.armed ht (esum_len (seedT_len t) rs) (by omega) (fun x hx => by have := (pms_lt x (List.mem_reverse.1 hx)).2; omega) w (hM.take hx).bopen).mono ?_
  rintro r w' ⟨D', p, rfl, hM⟩
  refine ⟨D', V.append hg hf p.out, rfl, Star.bjoin ?_⟩
  rw [esum_app, pms_app, List.reverse_append, tot_app, show tot [(k, d)] = bcost d.length by simp [tot], ← Nat.add_assoc]
  exact hM
theorem crash_bu {pre post : List Rc} {ch : List Int} {CA : Option Addr} {cn cc : Nat} (V : Hid (Live N D h t m rs)) (hrs : rs = pre ++ post) (hm : m ≤ tot pre) (h64 : ∀ j, j < tot pre - m → chN ch j = 64) (h0 : post ≠ [] → chN ch (tot pre - m) = 0) (ht : t + 1 ≤ 1000000) (hcn : cn ≤ 9223372036854775807) (hch : ∀ x ∈ ch, -9223372036854775808 ≤ x ∧ x ≤ 9223372036854775807) (w : World) (hM : Star L w) (hx : Take (bookE B D t h rs) L R) (hF : rowE 1 CA cn (ivs ch) ∈ R) : Calls Try.prog 23 #[dptr B.a, .slice CA cn cc] w fun r w' => ∃ D', Hid (OpenPre D' h t pre) ∧ Hid (D'.sure.length = N) ∧ r = .returned (.tuple #[]) ∧ Star (diskE B.a D' :: R) w' := by
  have V := V.out
  have h3 := (hM.take hx).bopen
  refine (crash_u (a := B.a) (F := R) V.dk.ok hcn hch w (h3.sel (by repeat (first | (with_reducible exact Sel.refl) | (with_reducible exact Take.head) | (with_reducible apply Take.tail) | (with_reducible apply Sel.cons) | (with_reducible apply Sel.drop)))) hF).mono ?_
  rintro r w' ⟨D', p, e, hM⟩
  exact ⟨D', V.crash p.out hrs hm h64 h0 ht, p.out.len.trans V.dk.len, e, hM⟩
end
end Go.Proofs.Ytnckgkgilnmocaa
set_option linter.unusedSimpArgs false
set_option linter.unusedVariables false
namespace Go.Proofs.Ytnckgkgilnmocaa
open Go.RowKit
attribute [local go_sem] extract_mid extract_drop bget bsize wrap64_u8 i64_u8 u64_u8 bappend
theorem ws_rowcell {P : Program} {w : World} {o : Oper} {a : Act} {Q : Exit → Act → World → Prop} {K : Act → World → Prop} {ty : TypeId} {x : Operand} (ho : o.op = .load ty x) {ad : Addr} {k size : Nat} (hx : a.eval x = .pointer (some (ad.add k)))
    {n : Nat} {xs : List Value} (hr : Rd w size (some ad) n xs) (hn : 0 < n) {v : Value} (hv : xs[k]? = some v) (hp : plainTy P ty = true) (h : K (a.put o.dst v) w) : Oper.wp P o a w K Q := by
  obtain ⟨ad', e, _, hc⟩ := hr.2 hn
  injection e with e
  subst e
  refine ws_rowload ho (ad := ad) (k := k) (n := xs.length) (xs := xs) hx ⟨by omega, fun _ => ⟨ad, rfl, ?_, hc⟩⟩ hv hp h
  all_goals assumption
/-- The cells of a book that stands anywhere. -/
theorem book_cells {B : BA} {D : Dsk} {t h : Nat} {rs : List Rc} {L : List SProp} {w : World} (hM : Star L w) (hx : bookE B D t h rs ∈ L) : Star [bkc B.b B.a t (esum (seedT t) rs) (frT h t + tot rs) (.map (some B.g))] w := by
  obtain ⟨R, hp⟩ := List.split_mem hx
  exact (hM.perm hp).bopen.sub (.cons_cons _ (List.nil_sublist _))
section
variable {F L R : List SProp}
set_option maxRecDepth 100000 in
theorem cost_r (n : Nat) (hn : n ≤ 1000000) (w : World) (hM : Star L w) : Calls Try.prog 22 #[.int .i64 (n : Int)] w fun r w' => r = .returned (.int .i64 (bcost n : Nat)) ∧ Star L w' := by
  have HN : Hid (∀ (L : List SProp) (w : World), Star L w → Calls Try.prog 50 #[.int .u64 (n : Int)] w fun r w' => r = .returned (.string ⟨(encNum n).toArray⟩) ∧ Star L w') := fun L w hM => rNum_star n (by omega) w hM
  have hl : (encNum n).length = nlen n := rfl
  have hq := nlen_le n
  have hm : (if (n : Int) < 0 then (0 : Int) else n) = n := if_neg (by omega)
  have hm2 : max (n : Int) 0 = n := by omega
  have HQ : Hid (((34 + nlen n + n + 63) / 64 : Nat) = bcost n) := by show _ = _; unfold bcost; congr 1; omega
  generalize nlen n = q at hl hq HQ
  generalize encNum n = s at HN hl
  go_enter Try.func22, Try.ntmps22
  go_wp2_with (first | (go_at_call 50; have hM0 := hM; clear hM; (first | (with_reducible refine (HN.out _ _ hM0).mono ?_) | fail); clear hM0; rintro _ w ⟨rfl, hM⟩))
  go_ret
  exact ⟨by rw [← HQ.out]; go_num, hM⟩
set_option maxRecDepth 100000 in
set_option maxHeartbeats 8000000 in
theorem awake12 (w : World) (hM : Star F w) : Calls Try.prog 8 #[] w fun r w' => r = .returned (.bool true) ∧ Star F w' := by
  have HNEW : Hid (∀ (L : List SProp) (w : World), Star L w → Calls Try.prog 19 #[.int .i64 12] w fun r w' => ∃ (a : DA) (D : Dsk), Hid (NPost D 12) ∧ r = .returned (dptr a) ∧ Star (diskE a D :: L) w') := fun L w hM => new_u (N := 12) (by decide) w hM
  have HOP : Hid (∀ (D : Dsk), Hid (NPost D 12) → ∀ (a : DA) (L R : List SProp) (w : World), Star L w → Take (diskE a D) L R → Calls Try.prog 14 #[dptr a] w fun r w' => ∃ (B : BA) (D' : Dsk) (A : Option Addr) (c : Nat), B.a = a ∧ Hid (Live 12 D' 5 1 0 []) ∧ r = .returned (.tuple #[bptr B.b, .slice A 0 c, .int .i64 0]) ∧ Star (bookE B D' 1 5 [] :: R) w') := fun D p a L R w hM hx => by
    refine (open_u (N := 12) (p.out.pre (by omega) (by omega)) p.out.len w hM hx).mono ?_
    rintro r w' ⟨B, D', A, c, e, l, q, hM⟩
    exact ⟨B, D', A, c, e, l, q, hM.sel (.drop .refl)⟩
  have HLF : Hid (∀ (B : BA) (D : Dsk), Hid (Live 12 D 5 1 0 []) → ∀ (L : List SProp) (w : World), Star L w → bookE B D 1 5 [] ∈ L → Calls Try.prog 20 #[bptr B.b] w fun r w' => r = .returned (.int .i64 5) ∧ Star L w') := fun B D V L w hM hx => left_u V (by omega) w hM hx
  have HTU : Hid (∀ (B : BA) (D : Dsk) (L : List SProp) (w : World), Star L w → bookE B D 1 5 [] ∈ L → Calls Try.prog 15 #[bptr B.b] w fun r w' => r = .returned (.int .i64 1) ∧ Star L w') := fun B D L w hM hx => turn_u w hM hx
  have hc1 : bcost ([97] : List UInt8).length = 1 := by decide +kernel
  have hc2 : bcost ([98] : List UInt8).length = 1 := by decide +kernel
  have ht1 : tot [(1, [97])] = 1 := by decide +kernel
  have HA1 : Hid (∀ (B : BA) (D : Dsk), Hid (Live 12 D 5 1 0 []) → ∀ (L R : List SProp) (w : World), Star L w → Take (bookE B D 1 5 []) L R → Calls Try.prog 12 #[bptr B.b, .int .i64 1, .string ⟨#[97]⟩] w fun r w' => ∃ D', Hid (Live 12 D' 5 1 0 [(1, [97])]) ∧ r = .returned (.tuple #[.agg (rcC 1 [97] 7), .int .i64 0]) ∧ Star (bookE B D' 1 5 [(1, [97])] :: R) w') := fun B D V L R w hM hx => append_u (k := 1) (d := [97]) V (by decide) (by omega) (by rw [hc1]; decide) w hM hx
  have HSY : Hid (∀ (B : BA) (D : Dsk), Hid (Live 12 D 5 1 0 [(1, [97])]) → ∀ (L R : List SProp) (w : World), Star L w → Take (bookE B D 1 5 [(1, [97])]) L R → Calls Try.prog 13 #[dptr B.a] w fun r w' => ∃ D', Hid (Live 12 D' 5 1 1 [(1, [97])]) ∧ r = .returned (.int .i64 0) ∧ Star (bookE B D' 1 5 [(1, [97])] :: R) w') := fun B D V L R w hM hx => by
    have := sync_bu V w hM hx
    rwa [ht1] at this
  have HA2 : Hid (∀ (B : BA) (D : Dsk), Hid (Live 12 D 5 1 1 [(1, [97])]) → ∀ (L R : List SProp) (w : World), Star L w → Take (bookE B D 1 5 [(1, [97])]) L R → Calls Try.prog 12 #[bptr B.b, .int .i64 1, .string ⟨#[98]⟩] w fun r w' => ∃ D', Hid (Live 12 D' 5 1 1 [(1, [97]), (1, [98])]) ∧ r = .returned (.tuple #[.agg (rcC 1 [98] 8), .int .i64 0]) ∧ Star (bookE B D' 1 5 [(1, [97]), (1, [98])] :: R) w') := fun B D V L R w hM hx => by
    have := append_u (k := 1) (d := [98]) V (by decide) (by omega) (by rw [ht1, hc2]; decide) w hM hx
    rw [ht1] at this
    exact this
  have HCR : Hid (∀ (B : BA) (D : Dsk), Hid (Live 12 D 5 1 1 [(1, [97]), (1, [98])]) → ∀ (L R : List SProp) (w : World), Star L w → Take (bookE B D 1 5 [(1, [97]), (1, [98])]) L R → Calls Try.prog 23 #[dptr B.a, .slice none 0 0] w fun r w' => ∃ D', Hid (OpenPre D' 5 1 [(1, [97])]) ∧ Hid (D'.sure.length = 12) ∧ r = .returned (.tuple #[]) ∧ Star (diskE B.a D' :: R) w') := fun B D V L R w hM hx => by
    have h1 := (hM.take hx).nilrow 1
    refine (crash_bu (pre := [(1, [97])]) (post := [(1, [98])]) (ch := []) (CA := none) (cn := 0) (cc := 0) V rfl (by rw [ht1]; omega) (fun j hj => by rw [ht1] at hj; omega) (fun _ => rfl) (by omega) (by omega) (fun x hx => by cases hx) w h1 (.tail .head) List.mem_cons_self).mono ?_
    rintro r w' ⟨D', p, l, e, hM⟩
    exact ⟨D', p, l, e, hM.sel (by repeat (first | (with_reducible exact Sel.refl) | (with_reducible exact Take.head) | (with_reducible apply Take.tail) | (with_reducible apply Sel.cons) | (with_reducible apply Sel.drop)))⟩
  have HOP2 : Hid (∀ (a : DA) (D : Dsk), Hid (OpenPre D 5 1 [(1, [97])]) → Hid (D.sure.length = 12) → ∀ (L R : List SProp) (w : World), Star L w → Take (diskE a D) L R → Calls Try.prog 14 #[dptr a] w fun r w' => ∃ (b : Nat) (ad : Addr) (c n : Nat), n = 1 ∧ r = .returned (.tuple #[bptr b, .slice (some ad) 1 c, .int .i64 0]) ∧ Star (rowE 3 (some ad) n [.int .i64 1, .string ⟨#[97]⟩, .int .i64 2] :: R) w') := fun a D P hN L R w hM hx => by
    refine (open_u P.out hN.out w hM hx).mono ?_
    rintro r w' ⟨B, D', A, c, e, l, rfl, hM⟩
    obtain ⟨ad, hA, -⟩ := (hM.row (A := A) (n := 1) List.mem_cons_self).2 (by decide)
    subst hA
    have hM2 : Star (rowE 3 (some ad) 1 [.int .i64 1, .string ⟨#[97]⟩, .int .i64 2] :: bookE B D' (1 + 1) 5 [(1, [97])] :: R) w' := hM
    exact ⟨B.b, ad, c, 1, rfl, rfl, hM2.sel (by repeat (first | (with_reducible exact Sel.refl) | (with_reducible exact Take.head) | (with_reducible apply Take.tail) | (with_reducible apply Sel.cons) | (with_reducible apply Sel.drop)))⟩
  clear hc1 hc2 ht1
  have tok1 : True := trivial
  have tok2 : True := trivial
  go_enter Try.func8, Try.ntmps8
  go_wp2_with (first | (go_at_call 19; have hM0 := hM; clear hM; (first | (with_reducible refine (HNEW.out _ _ hM0).mono ?_) | fail); clear hM0; rintro _ w ⟨a, D0, h0, rfl, hM⟩) | (have _t := tok1; (go_at_call 14; have hM0 := hM; clear hM; (first | (with_reducible refine (HOP.out D0 h0 a _ _ _ hM0 (by (repeat (first | (with_reducible exact Take.head) | apply Take.tail)); first | done | fail)).mono ?_) | fail); clear hM0; rintro _ w ⟨B, D1, A1, c1, hBa, h1, rfl, hM⟩); subst hBa; clear tok1) | (go_at_call 15; have hM0 := hM; clear hM; (first | (with_reducible refine (HTU.out B D1 _ _ hM0 (by (repeat (first | assumption | (with_reducible exact mZ) | apply mS)); first | done | fail)).mono ?_) | fail); clear hM0; rintro _ w ⟨rfl, hM⟩) | (go_at_call 20; have hM0 := hM; clear hM; (first | (with_reducible refine (HLF.out B D1 h1 _ _ hM0 (by (repeat (first | assumption | (with_reducible exact mZ) | apply mS)); first | done | fail)).mono ?_) | fail); clear hM0; rintro _ w ⟨rfl, hM⟩) | (have _t := tok2; (go_at_call 12; have hM0 := hM; clear hM; (first | (with_reducible refine (HA1.out B D1 h1 _ _ _ hM0 (by (repeat (first | (with_reducible exact Take.head) | apply Take.tail)); first | done | fail)).mono ?_) | fail); clear hM0; rintro _ w ⟨D2, h2, rfl, hM⟩); clear tok2) | (first | ((with_reducible refine at_alloc' ?_); (have hM0 := hM; clear hM; refine BigFrame.wpList_want (by rfl) fun K hK => ws_alloc hM0 (t := 38) rfl rc0 info_rc (fun g5 w hM => hK _ _ ?_); clear hM0 hK K)) | fail) | (first | ((with_reducible refine at_store' ?_); (have hM0 := hM; clear hM; refine BigFrame.wpList_want (by rfl) fun K hK => ws_store hM0 rfl rfl rfl (by (repeat (first | (with_reducible exact Take.head) | apply Take.tail)); first | done | fail) (n := 3) (by rfl) (by rfl) (by kernel_rfl) (by simp [Value.oneCell']) (fun w hM => hK _ _ ?_); clear hM0 hK K)) | fail) | ((with_reducible refine at_load' ?_); refine BigFrame.wpList_want (by rfl) fun K hK => ws_of_ex (ex_load1 (v := dptr B.a) (book_cells (B := B) hM (by (repeat (first | assumption | (with_reducible exact mZ) | apply mS)); first | done | fail)) rfl rfl List.mem_cons_self rfl (by kernel_rfl)) (hK _ _ ?_); clear hK K) | (go_at_call 13; have hM0 := hM; clear hM; (first | (with_reducible refine (HSY.out B D2 h2 _ _ _ hM0 (by (repeat (first | (with_reducible exact Take.head) | apply Take.tail)); first | done | fail)).mono ?_) | fail); clear hM0; rintro _ w ⟨D3, h3, rfl, hM⟩) | (go_at_call 12; have hM0 := hM; clear hM; (first | (with_reducible refine (HA2.out B D3 h3 _ _ _ hM0 (by (repeat (first | (with_reducible exact Take.head) | apply Take.tail)); first | done | fail)).mono ?_) | fail); clear hM0; rintro _ w ⟨D4, h4, rfl, hM⟩) | (go_at_call 23; have hM0 := hM; clear hM; (first | (with_reducible refine (HCR.out B D4 h4 _ _ _ hM0 (by (repeat (first | (with_reducible exact Take.head) | apply Take.tail)); first | done | fail)).mono ?_) | fail); clear hM0; rintro _ w ⟨D5, h5, hN5, rfl, hM⟩) | (go_at_call 14; have hM0 := hM; clear hM; (first | (with_reducible refine (HOP2.out B.a D5 h5 hN5 _ _ _ hM0 (by (repeat (first | (with_reducible exact Take.head) | apply Take.tail)); first | done | fail)).mono ?_) | fail); clear hM0; rintro _ w ⟨b2, ad, c2, n2, hn2, rfl, hM⟩) | ((with_reducible refine at_load' ?_); refine BigFrame.wpList_want (by rfl) fun K hK => ws_rowcell rfl (ad := ad) (k := 1) rfl (hM.row (A := some ad) (n := n2) (xs := [.int .i64 1, .string ⟨#[97]⟩, .int .i64 2]) (by (repeat (first | assumption | (with_reducible exact mZ) | apply mS)); first | done | fail)) (by omega) rfl (by kernel_rfl) (hK _ _ ?_); clear hK K) | (first | ((with_reducible refine at_load' ?_); (refine BigFrame.wpList_want (by rfl) fun K hK => ws_load1 hM rfl rfl (by (repeat (first | assumption | (with_reducible exact mZ) | apply mS)); first | done | fail) (by first | rfl | assumption) (by decide +kernel) (hK _ _ ?_); clear hK K)) | fail))
  go_ret
  exact ⟨rfl, hM.sel (by repeat (first | (with_reducible exact Sel.refl) | (with_reducible exact Take.head) | (with_reducible apply Take.tail) | (with_reducible apply Sel.cons) | (with_reducible apply Sel.drop)))⟩
end
end Go.Proofs.Ytnckgkgilnmocaa
set_option linter.unusedSimpArgs false
set_option linter.unusedVariables false
namespace Go.Proofs.Ytnckgkgilnmocaa
open Go.RowKit
attribute [local go_sem] extract_mid extract_drop bget bsize wrap64_u8 i64_u8 u64_u8 bappend
theorem and_i64B (n : Int) (m : Nat) (hm : m ≤ 62) : bits .and .i64 n (2 ^ m - 1 : Nat) = n % ((2 ^ m : Nat) : Int) := by
  have h62 : 2 ^ m ≤ 2 ^ 62 := Nat.pow_le_pow_right (by decide) hm
  have h0 : 0 < 2 ^ m := Nat.pow_pos (by decide)
  have hc : (BitVec.ofInt 64 ((2 ^ m - 1 : Nat) : Int)).toNat = 2 ^ m - 1 := by
    rw [BitVec.ofInt_natCast, BitVec.toNat_ofNat]; exact Nat.mod_eq_of_lt (by omega)
  have key : (BitVec.ofInt 64 n &&& BitVec.ofInt 64 ((2 ^ m - 1 : Nat) : Int)).toNat = (n % ((2 ^ 64 : Nat) : Int)).toNat % 2 ^ m := by
    rw [BitVec.toNat_and, BitVec.toNat_ofInt, hc, Nat.and_two_pow_sub_one_eq_mod]
  show IntKind.i64.wrap ((BitVec.ofInt 64 n &&& BitVec.ofInt 64 ((2 ^ m - 1 : Nat) : Int)).toNat : Nat) = _
  rw [key, IntKind.wrap_i64]
  have hd : ((2 ^ m : Nat) : Int) ∣ ((2 ^ 64 : Nat) : Int) := by
    rw [Int.natCast_dvd_natCast]; exact Nat.pow_dvd_pow 2 (by omega)
  have e1 : (((n % ((2 ^ 64 : Nat) : Int)).toNat % 2 ^ m : Nat) : Int) = n % ((2 ^ m : Nat) : Int) := by
    rw [Int.natCast_emod, Int.toNat_of_nonneg (Int.emod_nonneg _ (by decide)), Int.emod_emod_of_dvd _ hd]
  rw [e1]
  have h1 := Int.emod_nonneg n (show ((2 ^ m : Nat) : Int) ≠ 0 by omega)
  have h2 := Int.emod_lt_of_pos n (show (0 : Int) < ((2 ^ m : Nat) : Int) by omega)
  omega
theorem and63B (n : Int) : bits .and .i64 n 63 = n % 64 := and_i64B n 6 (by decide)
abbrev qcC (k : Int) (d : List UInt8) : Array Value := #[.int .i64 k, .string ⟨d.toArray⟩]
abbrev qc0 : Array Value := #[.int .i64 0, .string ⟨#[]⟩]
theorem info_qc : (Try.prog.info? 33).map (fun i => i.zero) = some (some (.agg qc0)) := by kernel_rfl
/-- Rows of the reference's records. -/
def qvs (l : List Rc) : List Value := l.flatMap fun x => (qcC x.1 x.2).toList
theorem qvs_app (l m : List Rc) : qvs (l ++ m) = qvs l ++ qvs m := by simp [qvs]
theorem qvs_len (l : List Rc) : (qvs l).length = 2 * l.length := by
  induction l with
  | nil => rfl
  | cons x l ih => rw [show qvs (x :: l) = (qcC x.1 x.2).toList ++ qvs l from rfl, List.length_append, ih]; simp; omega
theorem qvs_row {w : World} {A : Option Addr} {n : Nat} {l : List Rc} (h : Rd w 2 A n (qvs l)) : l.length = n := by
  have := h.1
  rw [qvs_len] at this
  omega
section
variable {F L R : List SProp}
end
end Go.Proofs.Ytnckgkgilnmocaa
set_option linter.unusedSimpArgs false
set_option linter.unusedVariables false
namespace Go.Proofs.Ytnckgkgilnmocaa
open Go.RowKit
attribute [local go_sem] extract_mid extract_drop bget bsize wrap64_u8 i64_u8 u64_u8 bappend
theorem neq_rc (k : Int) (d : List UInt8) (w : World) : (binOp .neq 33 (.agg (qcC k d)) (.agg (qcC k d))).run Try.prog w = .ok (.bool false) w := by
  have hu : Try.prog.underlying 33 = some (.struct (Try.prog.fieldsOf 33)) := by
    unfold Program.fieldsOf
    rw [Try.underlying33]
  have p1 : (Go.part 3 (qcC k d) 0).run Try.prog w = .ok (.int .i64 k) w := Go.run_part_plain _ (by kernel_rfl) rfl
  have p2 : (Go.part 9 (qcC k d) 1).run Try.prog w = .ok (.string ⟨d.toArray⟩) w := Go.run_part_plain _ (by kernel_rfl) rfl
  have q1 := run_equalIn_int (P := Try.prog) w 9998 3 .i64 .i64 k k Try.underlying3
  have q2 := run_equalIn_string (P := Try.prog) w 9998 9 ⟨d.toArray⟩ ⟨d.toArray⟩ Try.underlying9
  rw [run_neq_struct, run_equalIn_agg w 9999 _ _ _ hu (by kernel_rfl)]
  unfold Program.fieldsOf
  rw [Try.underlying33]
  simp [Op.eqFields, p1, p2, q1, q2, Sem.run_bind]
theorem ex_neq_rc {w : World} {o : Oper} {a : Act} {x y : Operand} {ty : TypeId} (ho : o.op = .binOp .neq 33 x y ty) {k : Int} {d : List UInt8} (hx : a.eval x = .agg (qcC k d)) (hy : a.eval y = .agg (qcC k d)) : (execOp a.eval o).run Try.prog w = .ok (.value (.bool false)) w := by
  unfold execOp
  simp only [ho, hx, hy, run_eqGuard_agg (P := Try.prog) w .neq 33 x y _ _ (by kernel_rfl), neq_rc, Sem.run_bind, Sem.run_pure, Result.andThen_ok]
section
variable {F L R : List SProp}
set_option maxRecDepth 100000 in
set_option maxHeartbeats 8000000 in
/-- The same records. -/
theorem same_r {A B : Option Addr} {n c e : Nat} (l : List Rc) (hn : n ≤ 100000) (w : World) (hM : Star L w) (h1 : rowE 2 A n (qvs l) ∈ L) (h2 : rowE 2 B n (qvs l) ∈ L) :
    Calls Try.prog 16 #[.slice A n c, .slice B n e] w fun r w' => r = .returned (.bool true) ∧ Star L w' := by
  go_enter Try.func16, Try.ntmps16
  go_wp2_with fail
  go_loopw [13] (fun i wr => ∃ (j : Nat), j ≤ n ∧ i = .int .i64 j ∧ Star L wr) (fun i _ => n - (intOf i).toNat)
  case atStart => exact ⟨0, Nat.zero_le _, rfl, hM⟩
  case round =>
    clear hM
    obtain ⟨j, hj, rfl, hM⟩ := hrel
    by_cases hlt : j < n
    · obtain ⟨ad, ⟨k, d⟩, rfl, hc, hgx, -⟩ := Rd.elems (f := fun x : Rc => (qcC x.1 x.2).toList) (hM.row (A := A) (n := n) (xs := qvs l) h1) (fun x _ => rfl) (by omega) hlt
      obtain ⟨ae, ⟨k2, d2⟩, rfl, hc2, hgx2, -⟩ := Rd.elems (f := fun x : Rc => (qcC x.1 x.2).toList) (hM.row (A := B) (n := n) (xs := qvs l) h2) (fun x _ => rfl) (by omega) hlt
      rw [hgx] at hgx2
      injection hgx2 with hgx2
      injection hgx2 with hk2 hd2
      subst hk2 hd2
      have hv1 : ∀ (i : Nat) (v : Value), (qcC k d).toList[i]? = some v → (qvs l)[j * 2 + i]? = some v := fun i v h => flat_get (fun x : Rc => (qcC x.1 x.2).toList) 2 l (fun x _ => rfl) j (k, d) hgx i v h
      clear hgx
      go_wp2_with fail
      (refine region_RS ([rowE 2 (some ad) n (qvs l), rowE 2 (some ae) n (qvs l)]) [] (by kernel_rfl) hM ?_; clear hM; change RS _ _ _ _ _ _ 9 (Array.replicate 9 false) _ _; refine RS_take (i := 0) rfl (by decide +kernel) (fun _ _ _ h => h) (by first | (intro x hx; (repeat (first | exact hx | apply mS)); done) | ((repeat (refine List.forall_mem_cons.2 ⟨(by (repeat (first | assumption | (with_reducible exact mZ) | apply mS)); first | done | fail), ?_⟩)); intro x hx; first | (cases hx; done) | ((repeat (first | exact hx | apply mS)); done))) (stab_pure (by rfl) (fun w => (by go_simp; try with_reducible rfl))) ?_; simp only [Act.put, List.setIfInBounds_toArray, List.set_cons_zero, List.set_cons_succ]; refine RS_take (i := 1) rfl (by decide +kernel) (fun _ _ _ h => h) (by first | (intro x hx; (repeat (first | exact hx | apply mS)); done) | ((repeat (refine List.forall_mem_cons.2 ⟨(by (repeat (first | assumption | (with_reducible exact mZ) | apply mS)); first | done | fail), ?_⟩)); intro x hx; first | (cases hx; done) | ((repeat (first | exact hx | apply mS)); done))) (stab_pure (by rfl) (fun w => (by go_simp; try with_reducible rfl))) ?_; simp only [Act.put, List.setIfInBounds_toArray, List.set_cons_zero, List.set_cons_succ]; refine RS_take (i := 2) rfl (by decide +kernel) (fun _ _ _ h => h) (by first | (intro x hx; (repeat (first | exact hx | apply mS)); done) | ((repeat (refine List.forall_mem_cons.2 ⟨(by (repeat (first | assumption | (with_reducible exact mZ) | apply mS)); first | done | fail), ?_⟩)); intro x hx; first | (cases hx; done) | ((repeat (first | exact hx | apply mS)); done))) (stab_pure (by rfl) (fun w => (by go_simp; try with_reducible rfl))) ?_; simp only [Act.put, List.setIfInBounds_toArray, List.set_cons_zero, List.set_cons_succ]; refine RS_take (i := 3) rfl (by decide +kernel) (fun _ _ _ h => h) (by first | (intro x hx; (repeat (first | exact hx | apply mS)); done) | ((repeat (refine List.forall_mem_cons.2 ⟨(by (repeat (first | assumption | (with_reducible exact mZ) | apply mS)); first | done | fail), ?_⟩)); intro x hx; first | (cases hx; done) | ((repeat (first | exact hx | apply mS)); done))) (stab_read (by rfl) (fun L w hL hM => (ex_rowload_row (k := j) rfl rfl (hM.row (hL _ (by (repeat (first | assumption | (with_reducible exact mZ) | apply mS)); first | done | fail))) (qcC k d).toList hv1 rfl hlt (by kernel_rfl)))) ?_; simp only [Act.put, List.setIfInBounds_toArray, List.set_cons_zero, List.set_cons_succ]; refine RS_take (i := 4) rfl (by decide +kernel) (fun _ _ _ h => h) (by first | (intro x hx; (repeat (first | exact hx | apply mS)); done) | ((repeat (refine List.forall_mem_cons.2 ⟨(by (repeat (first | assumption | (with_reducible exact mZ) | apply mS)); first | done | fail), ?_⟩)); intro x hx; first | (cases hx; done) | ((repeat (first | exact hx | apply mS)); done))) (stab_pure (by rfl) (fun w => (by go_simp; try with_reducible rfl))) ?_; simp only [Act.put, List.setIfInBounds_toArray, List.set_cons_zero, List.set_cons_succ]; refine RS_take (i := 5) rfl (by decide +kernel) (fun _ _ _ h => h) (by first | (intro x hx; (repeat (first | exact hx | apply mS)); done) | ((repeat (refine List.forall_mem_cons.2 ⟨(by (repeat (first | assumption | (with_reducible exact mZ) | apply mS)); first | done | fail), ?_⟩)); intro x hx; first | (cases hx; done) | ((repeat (first | exact hx | apply mS)); done))) (stab_pure (by rfl) (fun w => (by go_simp; try with_reducible rfl))) ?_; simp only [Act.put, List.setIfInBounds_toArray, List.set_cons_zero, List.set_cons_succ]; refine RS_take (i := 6) rfl (by decide +kernel) (fun _ _ _ h => h) (by first | (intro x hx; (repeat (first | exact hx | apply mS)); done) | ((repeat (refine List.forall_mem_cons.2 ⟨(by (repeat (first | assumption | (with_reducible exact mZ) | apply mS)); first | done | fail), ?_⟩)); intro x hx; first | (cases hx; done) | ((repeat (first | exact hx | apply mS)); done))) (stab_pure (by rfl) (fun w => (by go_simp; try with_reducible rfl))) ?_; simp only [Act.put, List.setIfInBounds_toArray, List.set_cons_zero, List.set_cons_succ]; refine RS_take (i := 7) rfl (by decide +kernel) (fun _ _ _ h => h) (by first | (intro x hx; (repeat (first | exact hx | apply mS)); done) | ((repeat (refine List.forall_mem_cons.2 ⟨(by (repeat (first | assumption | (with_reducible exact mZ) | apply mS)); first | done | fail), ?_⟩)); intro x hx; first | (cases hx; done) | ((repeat (first | exact hx | apply mS)); done))) (stab_read (by rfl) (fun L w hL hM => (ex_rowload_row (k := j) rfl rfl (hM.row (hL _ (by (repeat (first | assumption | (with_reducible exact mZ) | apply mS)); first | done | fail))) (qcC k d).toList hv1 rfl hlt (by kernel_rfl)))) ?_; simp only [Act.put, List.setIfInBounds_toArray, List.set_cons_zero, List.set_cons_succ]; refine RS_take (i := 8) rfl (by decide +kernel) (fun _ _ _ h => h) (by first | (intro x hx; (repeat (first | exact hx | apply mS)); done) | ((repeat (refine List.forall_mem_cons.2 ⟨(by (repeat (first | assumption | (with_reducible exact mZ) | apply mS)); first | done | fail), ?_⟩)); intro x hx; first | (cases hx; done) | ((repeat (first | exact hx | apply mS)); done))) (stab_read (by rfl) (fun L w hL hM => (ex_neq_rc (k := k) (d := d) rfl rfl rfl))) ?_; simp only [Act.put, List.setIfInBounds_toArray, List.set_cons_zero, List.set_cons_succ]; refine RS_done (by decide +kernel) (.inl (by first | (intro x hx; (repeat (first | exact hx | apply mS)); done) | ((repeat (refine List.forall_mem_cons.2 ⟨(by (repeat (first | assumption | (with_reducible exact mZ) | apply mS)); first | done | fail), ?_⟩)); intro x hx; first | (cases hx; done) | ((repeat (first | exact hx | apply mS)); done)))) (fun w hM => ?_))
      go_wp2_with fail
      go_roundw
      case rel => exact ⟨j + 1, by omega, by go_num, hM.sel (by repeat (first | (with_reducible exact Sel.refl) | (with_reducible exact Take.head) | (with_reducible apply Take.tail) | (with_reducible apply Sel.cons) | (with_reducible apply Sel.drop)))⟩
      case measure => simp [intOf]; omega
    · go_wp2_with fail
      go_ret
      exact ⟨rfl, hM⟩
theorem cutQ_len (d : List UInt8) : (cutP d 200).length ≤ 200 := by have := cutP_len d 200 (by omega); omega
set_option maxRecDepth 100000 in
theorem few_l (k : Int) (d : List UInt8) (w : World) (hM : Star L w) : Calls Try.prog 10 #[.agg (qcC k d)] w fun r w' => r = .returned (.agg (qcC k (cutP d 200))) ∧ Star L w' := by
  have HC : Hid (∀ (L : List SProp) (w : World), Star L w → Calls Try.prog 32 #[.string ⟨d.toArray⟩, .int .i64 200] w fun r w' => r = .returned (.string ⟨(cutP d 200).toArray⟩) ∧ Star L w') := fun L w hM => (cut_any d 200 (by omega) w).mono fun r w' ⟨e, h⟩ => ⟨e, h ▸ hM⟩
  generalize cutP d 200 = u at HC ⊢
  go_enter Try.func10, Try.ntmps10
  go_wp2_with (first | (first | ((with_reducible refine at_box' ?_); (have hM0 := hM; clear hM; refine BigFrame.wpList_want (by rfl) fun K hK => ws_box hM0 rfl rfl (cs := qcC k d) rfl (fun g1 w hM => hK _ _ ?_); clear hM0 hK K)) | fail) | (first | ((with_reducible refine at_alloc' ?_); (have hM0 := hM; clear hM; refine BigFrame.wpList_want (by rfl) fun K hK => ws_alloc hM0 (t := 33) rfl qc0 info_qc (fun g2 w hM => hK _ _ ?_); clear hM0 hK K)) | fail) | (first | ((with_reducible refine at_load' ?_); (refine BigFrame.wpList_want (by rfl) fun K hK => ws_load1 hM rfl rfl (by (repeat (first | assumption | (with_reducible exact mZ) | apply mS)); first | done | fail) (by first | rfl | assumption) (by decide +kernel) (hK _ _ ?_); clear hK K)) | fail) | (go_at_call 32; have hM0 := hM; clear hM; (first | (with_reducible refine (HC.out _ _ hM0).mono ?_) | fail); clear hM0; rintro _ w ⟨rfl, hM⟩) | (first | ((with_reducible refine at_store' ?_); (have hM0 := hM; clear hM; refine BigFrame.wpList_want (by rfl) fun K hK => ws_store1 hM0 rfl rfl (by go_simp; rfl) (by first | rfl | assumption) (by (repeat (first | (with_reducible exact Take.head) | apply Take.tail)); first | done | fail) (by simp) (by kernel_rfl) (by simp only [List.setIfInBounds_toArray, List.set_cons_zero, List.set_cons_succ]; rfl) (fun w hM => hK _ _ ?_); clear hM0 hK K)) | fail) | (first | ((with_reducible refine at_load' ?_); (refine BigFrame.wpList_want (by rfl) fun K hK => ws_load hM rfl rfl (by (repeat (first | assumption | (with_reducible exact mZ) | apply mS)); first | done | fail) (n := 2) (by rfl) (by decide +kernel) (hK _ _ ?_); clear hK K)) | fail) | (first | ((with_reducible refine at_store' ?_); (have hM0 := hM; clear hM; refine BigFrame.wpList_want (by rfl) fun K hK => ws_store hM0 rfl rfl rfl (by (repeat (first | (with_reducible exact Take.head) | apply Take.tail)); first | done | fail) (n := 2) (by rfl) (by rfl) (by kernel_rfl) (by simp [Value.oneCell']) (fun w hM => hK _ _ ?_); clear hM0 hK K)) | fail))
  refine bodyPost_ret (results_row (P := Try.prog) (ty := 33) rfl _ _ g2 33 (qcC k u) 2 rfl (hM.blk (by (repeat (first | assumption | (with_reducible exact mZ) | apply mS)); first | done | fail)) rfl (by decide +kernel)) rfl ?_
  exact ⟨rfl, hM.sel (by repeat (first | (with_reducible exact Sel.refl) | (with_reducible exact Take.head) | (with_reducible apply Take.tail) | (with_reducible apply Sel.cons) | (with_reducible apply Sel.drop)))⟩
set_option maxRecDepth 100000 in
set_option maxHeartbeats 8000000 in
theorem told_l {A : Option Addr} {n c : Nat} (xs : List (Rc × Nat)) (hn : n ≤ 100000) (w : World) (hM : Star L w) (h1 : rowE 3 A n (rvs xs) ∈ L) : Calls Try.prog 17 #[.slice A n c] w fun r w' => ∃ C e, r = .returned (.slice C n e) ∧ Star (rowE 2 C n (qvs (xs.map (·.1))) :: L) w' := by
  have hl := rvs_row (hM.row h1)
  have HL := Lib.hid hl
  clear hl
  go_enter Try.func17, Try.ntmps17
  go_wp2_with (first | (first | ((with_reducible refine at_slice' ?_); (have hM0 := hM; clear hM; refine BigFrame.wpList_want (by rfl) fun K hK => ws_slice_own hM0 (n := 0) rfl 33 2 (.agg qc0) [] Try.underlying22 (by kernel_rfl) rfl (by simp [Value.cells, iv, sv, bv]) (by rfl) (by decide) (by decide) (cs := []) (by rfl) (fun g3 w hM => hK _ _ ?_); clear hM0 hK K)) | fail))
  go_loopw [3, 9] (fun out i wr => ∃ (j : Nat) (C : Option Addr) (e : Nat), j ≤ n ∧ i = .int .i64 j ∧ out = .slice C j e ∧ Star (ownE 33 2 C j e (qvs ((xs.take j).map (·.1))) :: L) wr) (fun _ i _ => n - (intOf i).toNat)
  case atStart =>
    refine ⟨0, _, _, Nat.zero_le _, rfl, rfl, ?_⟩
    exact hM
  case round =>
    clear hM
    obtain ⟨j, C, e, hj, rfl, rfl, hM⟩ := hrel
    by_cases hlt : j < n
    · obtain ⟨ad, ⟨⟨k, d⟩, at_⟩, rfl, hc, hgx, hta⟩ := Rd.elems (f := fun x : Rc × Nat => (rcC x.1.1 x.1.2 x.2).toList) (hM.row (A := A) (n := n) (xs := rvs xs) (List.mem_cons_of_mem _ h1)) (fun x _ => rfl) (by omega) hlt
      have HTA : Hid (qvs ((xs.take (j + 1)).map (·.1)) = qvs ((xs.take j).map (·.1)) ++ (qcC k d).toList) := by show _ = _; rw [hta, List.map_append, qvs_app]; simp [qvs]
      clear hta hgx
      go_wp2_with (first | (refine wpList_plain rfl fun K hK => ws_load_at rfl rfl (rcC k d at_).toList hc (n := 3) rfl (by kernel_rfl) (hK _ _ ?_); clear hK K) | (first | ((with_reducible refine at_alloc' ?_); (have hM0 := hM; clear hM; refine BigFrame.wpList_want (by rfl) fun K hK => ws_alloc hM0 (t := 38) rfl rc0 info_rc (fun g5 w hM => hK _ _ ?_); clear hM0 hK K)) | fail) | (first | ((with_reducible refine at_store' ?_); (have hM0 := hM; clear hM; refine BigFrame.wpList_want (by rfl) fun K hK => ws_store hM0 rfl rfl rfl (by (repeat (first | (with_reducible exact Take.head) | apply Take.tail)); first | done | fail) (n := 3) (by rfl) (by rfl) (by kernel_rfl) (by simp [Value.oneCell']) (fun w hM => hK _ _ ?_); clear hM0 hK K)) | fail) | (first | ((with_reducible refine at_load' ?_); (refine BigFrame.wpList_want (by rfl) fun K hK => ws_load1 hM rfl rfl (by (repeat (first | assumption | (with_reducible exact mZ) | apply mS)); first | done | fail) (by first | rfl | assumption) (by decide +kernel) (hK _ _ ?_); clear hK K)) | fail) | (first | ((with_reducible refine at_slice' ?_); (have hM0 := hM; clear hM; refine BigFrame.wpList_want (by rfl) fun K hK => ws_slice_row hM0 (n := 1) rfl 33 2 (.agg qc0) [.agg (qcC k d)] Try.underlying22 (by kernel_rfl) rfl (by simp [Value.cells, iv, sv, bv]) (by rfl) (by decide) (cs := (qcC k d).toList) (by rfl) (fun gr w hM => hK _ _ ?_); clear hM0 hK K)) | fail) | (first | ((with_reducible refine at_call' ?_); (have hM0 := hM; clear hM; refine BigFrame.wpList_want (by rfl) fun K hK => ws_append hM0 rfl rfl rfl 33 ((.agg qc0)) 2 24 Try.underlying22 (by kernel_rfl) (by rfl) (by decide) (by (repeat (first | (with_reducible exact Take.head) | apply Take.tail)); first | done | fail) (by first | (apply Star.row hM0; (repeat (first | assumption | (with_reducible exact mZ) | apply mS)); done) | (apply Star.own hM0; (repeat (first | assumption | (with_reducible exact mZ) | apply mS)); done) | (apply Star.arr hM0; (focus ((repeat (first | assumption | (with_reducible exact mZ) | apply mS)); done)); assumption)) ((by simp [Value.oneCell'])) ((by omega)) (fun C1 e1 w hM hnil => hK _ _ ?_); clear hM0 hK K)) | fail))
      go_roundw
      case rel =>
        refine ⟨j + 1, C1, e1, by omega, by go_num, rfl, ?_⟩
        rw [HTA.out]
        exact hM.sel (by repeat (first | (with_reducible exact Sel.refl) | (with_reducible exact Take.head) | (with_reducible apply Take.tail) | (with_reducible apply Sel.cons) | (with_reducible apply Sel.drop)))
      case measure => simp [intOf]; omega
    · obtain rfl : n = j := by omega
      go_wp2_with fail
      go_ret
      have hM := hM.freeze
      rw [List.take_of_length_le (by rw [HL.out]; omega)] at hM
      exact ⟨C, e, rfl, hM⟩
abbrev st12C (a : DA) (b : Nat) (B : Option Addr) (m d h t : Nat) : Array Value := #[dptr a, bptr b, .slice none 0 0, .slice B m d, .int .i64 (h : Int), .int .i64 (t : Int), .slice none 0 0, .bool false]
theorem info_st12 : (Try.prog.info? 29).map (fun i => i.zero) = some (some (.agg #[.pointer none, .pointer none, .slice none 0 0, .slice none 0 0, .int .i64 0, .int .i64 0, .slice none 0 0, .bool false])) := by kernel_rfl
set_option maxRecDepth 100000 in
set_option maxHeartbeats 8000000 in
theorem begin_l (w : World) (hM : Star L w) : Calls Try.prog 9 #[.int .i64 60] w fun r w' => ∃ (B : BA) (D : Dsk), Hid (Live 60 D 29 1 0 []) ∧ r = .returned (.tuple #[.agg (st12C B.a B.b none 0 0 29 1), .bool true]) ∧ Star (bookE B D 1 29 [] :: L) w' := by
  have HNEW : Hid (∀ (L : List SProp) (w : World), Star L w → Calls Try.prog 19 #[.int .i64 60] w fun r w' => ∃ (a : DA) (D : Dsk), Hid (NPost D 60) ∧ r = .returned (dptr a) ∧ Star (diskE a D :: L) w') := fun L w hM => new_u (N := 60) (by decide) w hM
  have HOP : Hid (∀ (D : Dsk), Hid (NPost D 60) → ∀ (a : DA) (L R : List SProp) (w : World), Star L w → Take (diskE a D) L R → Calls Try.prog 14 #[dptr a] w fun r w' => ∃ (B : BA) (D' : Dsk) (A : Option Addr) (c : Nat), B.a = a ∧ Hid (Live 60 D' 29 1 0 []) ∧ r = .returned (.tuple #[bptr B.b, .slice A 0 c, .int .i64 0]) ∧ Star (bookE B D' 1 29 [] :: R) w') := fun D p a L R w hM hx => by
    refine (open_u (N := 60) (p.out.pre (by omega) (by omega)) p.out.len w hM hx).mono ?_
    rintro r w' ⟨B, D', A, c, e, l, q, hM⟩
    exact ⟨B, D', A, c, e, l, q, hM.sel (.drop .refl)⟩
  have hmm : min (max (60 : Int) 4) 60 = 60 := by decide
  go_enter Try.func9, Try.ntmps9
  go_wp2_with (first | (first | ((with_reducible refine at_alloc' ?_); (have hM0 := hM; clear hM; refine BigFrame.wpList_want (by rfl) fun K hK => ws_alloc hM0 (t := 29) rfl _ info_st12 (fun g2 w hM => hK _ _ ?_); clear hM0 hK K)) | fail) | (go_at_call 19; have hM0 := hM; clear hM; (first | (with_reducible refine (HNEW.out _ _ hM0).mono ?_) | fail); clear hM0; rintro _ w ⟨a, D0, h0, rfl, hM⟩) | ((go_at_call 14; have hM0 := hM; clear hM; (first | (with_reducible refine (HOP.out D0 h0 a _ _ _ hM0 (by (repeat (first | (with_reducible exact Take.head) | apply Take.tail)); first | done | fail)).mono ?_) | fail); clear hM0; rintro _ w ⟨B, D1, A1, c1, hBa, h1, rfl, hM⟩); subst hBa) | (first | ((with_reducible refine at_store' ?_); (have hM0 := hM; clear hM; refine BigFrame.wpList_want (by rfl) fun K hK => ws_store hM0 rfl rfl rfl (by (repeat (first | (with_reducible exact Take.head) | apply Take.tail)); first | done | fail) (n := 8) (by rfl) (by rfl) (by kernel_rfl) (by simp [Value.oneCell']) (fun w hM => hK _ _ ?_); clear hM0 hK K)) | fail))
  replace hM : Star (cellsE g2 29 (st12C B.a B.b none 0 0 29 1) :: bookE B D1 1 29 [] :: L) _ := hM
  refine bodyPost_ret (results_row_tmp (P := Try.prog) (ty := 29) rfl _ _ g2 29 (st12C B.a B.b none 0 0 29 1) 8 _ rfl rfl (hM.blk (by (repeat (first | assumption | (with_reducible exact mZ) | apply mS)); first | done | fail)) rfl (by decide +kernel)) rfl ?_
  exact ⟨B, D1, h1, rfl, hM.sel (by repeat (first | (with_reducible exact Sel.refl) | (with_reducible exact Take.head) | (with_reducible apply Take.tail) | (with_reducible apply Sel.cons) | (with_reducible apply Sel.drop)))⟩
end
end Go.Proofs.Ytnckgkgilnmocaa
set_option linter.unusedSimpArgs false
set_option linter.unusedVariables false
namespace Go.Proofs.Ytnckgkgilnmocaa
open Go.RowKit
attribute [local go_sem] extract_mid extract_drop bget bsize wrap64_u8 i64_u8 u64_u8 bappend
/-- A record as it is asked for: any kind. -/
abbrev Rq := Int × List UInt8
def acQ (p : Rq) : List Value := (qcC p.1 p.2).toList
theorem acQ_len (p : Rq) : (acQ p).length = 2 := rfl
def qlvs (l : List Rq) : List Value := l.flatMap acQ
structure QOk (p : Rq) : Prop where
  b1 : -9223372036854775808 ≤ p.1
  b2 : p.1 ≤ 9223372036854775807
  x : p.2.length ≤ 9223372036854775807
theorem qlvs_row {w : World} {A : Option Addr} {n : Nat} {l : List Rq} (h : Rd w 2 A n (qlvs l)) : l.length = n := by
  have h2 := h.1
  have : (qlvs l).length = 2 * l.length := by
    clear h h2
    induction l with
    | nil => rfl
    | cons x l ih => rw [show qlvs (x :: l) = acQ x ++ qlvs l from rfl, List.length_append, ih, acQ_len]; simp; omega
  omega
/-- The record that the law makes of it. -/
def mkR (p : Rq) : Rc := (1 + (p.1 % 64).toNat, cutP p.2 200)
theorem mkR_good (p : Rq) : rcGood (mkR p) := by
  have h := cutQ_len p.2
  refine ⟨?_, ?_, ?_⟩ <;> simp only [mkR] <;> omega
theorem mkR_cost (p : Rq) : bcost (mkR p).2.length ≤ 4 ∧ 1 ≤ bcost (mkR p).2.length := by
  have h : (mkR p).2.length ≤ 200 := cutQ_len p.2
  have h2 := nlen_small (n := (mkR p).2.length) (by omega)
  refine ⟨?_, bcost_pos _⟩
  unfold bcost
  omega
theorem mkRs_tot (l : List Rq) : tot (l.map mkR) ≤ 4 * l.length := by
  induction l with
  | nil => simp [tot]
  | cons p l ih => rw [List.map_cons, tot_cons, List.length_cons]; have := (mkR_cost p).1; unfold rcost; omega
/-- What the walk needs of one. -/
theorem mkR_num {p : Rq} (h1 : -9223372036854775808 ≤ p.1) (h2 : p.1 ≤ 9223372036854775807) : bits .and .i64 p.1 63 = (((p.1 % 64).toNat : Nat) : Int) ∧ (1 : Int) + (((p.1 % 64).toNat : Nat) : Int) = ((mkR p).1 : Int) := by
  refine ⟨by rw [and63B]; omega, ?_⟩
  simp only [mkR]
  omega
theorem Star.elemQ {L : List SProp} {w : World} {A : Option Addr} {n k : Nat} {l : List Rq} (h : Star L w) (hx : rowE 2 A n (qlvs l) ∈ L) (hk : k < n) :
    ∃ ad p, A = some ad ∧ (∀ j v, (acQ p)[j]? = some v → w.cell? ((ad.add (k * 2)).add j) = some v) ∧ l[k]? = some p ∧ l.take (k + 1) = l.take k ++ [p] :=
  Rd.elems (f := acQ) (h.row hx) (fun x _ => rfl) (by omega) hk
end Go.Proofs.Ytnckgkgilnmocaa
set_option linter.unusedSimpArgs false
set_option linter.unusedVariables false
namespace Go.Proofs.Ytnckgkgilnmocaa
open Go.RowKit
attribute [local go_sem] extract_mid extract_drop bget bsize wrap64_u8 i64_u8 u64_u8 bappend
/-- So many choices for each record: nothing of record q, all of the others. -/
def chq (q : Nat) : Nat → List Nat → List Int
  | _, [] => []
  | i, n :: l => List.replicate n (if i = q then 0 else 64) ++ chq q (i + 1) l
theorem chq_app (q : Nat) (a b : List Nat) : ∀ i, chq q i (a ++ b) = chq q i a ++ chq q (i + a.length) b := by
  induction a with
  | nil => intro i; simp [chq]
  | cons n a ih =>
    intro i
    simp only [List.cons_append, chq, ih, List.length_cons, List.append_assoc]
    congr 3
    omega
theorem chq_snoc (q : Nat) (a : List Nat) (n : Nat) : chq q 0 (a ++ [n]) = chq q 0 a ++ List.replicate n (if a.length = q then 0 else 64) := by
  rw [chq_app, Nat.zero_add]
  simp [chq]
theorem chq_ahead (q : Nat) (a : List Nat) : ∀ i, i + a.length ≤ q → chq q i a = List.replicate a.sum 64 := by
  induction a with
  | nil => intro i _; rfl
  | cons n a ih =>
    intro i h
    rw [List.length_cons] at h
    simp only [chq]
    rw [if_neg (by omega), ih (i + 1) (by omega), List.replicate_append_replicate, List.sum_cons]
theorem chq_vals (q : Nat) (a : List Nat) : ∀ i, ∀ x ∈ chq q i a, x = 0 ∨ x = 64 := by
  induction a with
  | nil => intro i x hx; cases hx
  | cons n a ih =>
    intro i x hx
    rcases List.mem_append.1 hx with hx | hx
    · have := (List.mem_replicate.1 hx).2
      split at this
      · exact .inl this
      · exact .inr this
    · exact ih _ x hx
def costsOf (l : List Rc) : List Nat := l.map rcost
theorem chq_64 {rs pre post : List Rc} {r : Rc} (h : rs = pre ++ r :: post) (j : Nat) (hj : j < tot pre) : chN (chq pre.length 0 (costsOf rs)) j = 64 := by
  have e : chq pre.length 0 (costsOf rs) = List.replicate (tot pre) 64 ++ chq pre.length (0 + pre.length) (costsOf (r :: post)) := by
    rw [h, costsOf, List.map_append, chq_app, chq_ahead _ _ 0 (by simp), List.length_map]
    rfl
  unfold chN
  rw [e, List.getElem?_append_left (by simpa using hj), List.getElem?_replicate, if_pos hj]
  rfl
theorem chq_0 {rs pre post : List Rc} {r : Rc} (h : rs = pre ++ r :: post) : chN (chq pre.length 0 (costsOf rs)) (tot pre) = 0 := by
  have hc := bcost_pos r.2.length
  have e : chq pre.length 0 (costsOf rs) = List.replicate (tot pre) 64 ++ (List.replicate (rcost r) 0 ++ chq pre.length (0 + pre.length + 1) (costsOf post)) := by
    rw [h, costsOf, List.map_append, chq_app, chq_ahead _ _ 0 (by simp), List.length_map]
    simp only [List.map_cons, chq, costsOf]
    rw [if_pos (by omega)]
    rfl
  have hr : 0 < rcost r := hc
  unfold chN
  rw [e, List.getElem?_append_right (by simp), List.length_replicate, Nat.sub_self, List.getElem?_append_left (by simpa using hr), List.getElem?_replicate, if_pos hr]
  rfl
theorem own_capB {L : List SProp} {w : World} {e : TypeId} {size : Nat} {A : Option Addr} {n c : Nat} {xs : List Value} (h : Star L w) (hx : ownE e size A n c xs ∈ L) : n ≤ c ∧ c ≤ 9223372036854775807 := by
  have h1 : w.ownsRow 0 e size (.slice A n c) n xs := h.all _ hx
  rcases h1.2 with ⟨hv, rfl⟩ | ⟨g, cap, cur, hv, _, _, h2, h3, _⟩
  · injection hv with _ _ hc
    subst hc
    omega
  · injection hv with _ _ hc
    subst hc
    unfold maxLen at h3
    omega
/-- The first records of a row. -/
theorem Star.qpre {L : List SProp} {w : World} {A : Option Addr} {n k : Nat} {l : List Rc} (h : Star L w) (hx : rowE 2 A n (qvs l) ∈ L) (hk : k ≤ n) : Star (rowE 2 A k (qvs (l.take k)) :: L) w := by
  have hr := h.row hx
  have hl := qvs_row hr
  have e : qvs l = qvs (l.take k) ++ qvs (l.drop k) := by rw [← qvs_app, List.take_append_drop]
  refine h.view hx rfl rfl (fun j ⟨ad, e, hn, hj⟩ => ⟨ad, e, by omega, hj⟩) ⟨by rw [qvs_len, List.length_take, Nat.min_eq_left (by omega)]; omega, fun h0 => ?_⟩
  obtain ⟨ad, h1, h2, h3⟩ := hr.2 (by omega)
  refine ⟨ad, h1, h2, fun j u hu => h3 j u ?_⟩
  rw [e, List.getElem?_append_left (List.getElem?_eq_some_iff.1 hu).1]
  exact hu
end Go.Proofs.Ytnckgkgilnmocaa
set_option linter.unusedSimpArgs false
set_option linter.unusedVariables false
namespace Go.Proofs.Ytnckgkgilnmocaa
open Go.RowKit Go.WideShapes Go.ChangeShapes Go.ChangeAt
def i64ok (x : Int) : Prop := -9223372036854775808 ≤ x ∧ x ≤ 9223372036854775807
theorem wf_i64 {x : Int} (h : (Lit.int .i64 x).wf = true) : i64ok x := by
  simp [Lit.wf, IntKind.min, IntKind.max, IntKind.signed, IntKind.bits] at h
  unfold i64ok
  omega
section
variable {H : Type} {enc : TypeId × Value → H} {P : Program} {w : World} {base : Nat} {spare : Nat → Bool} {held : Bool}
end
end Go.Proofs.Ytnckgkgilnmocaa
set_option linter.unusedSimpArgs false
set_option linter.unusedVariables false
namespace Go.Proofs.Ytnckgkgilnmocaa
open Go.RowKit Go.WideShapes Go.ChangeShapes Go.ChangeAt
section
variable {H : Type} {enc : TypeId × Value → H} {P : Program} {w : World} {base : Nat} {spare : Nat → Bool} {held : Bool}
theorem get_of_cutA {cs : List Value} {j : Nat} {v : Value} (h : (cs.drop j).take 1 = [v]) : cs[j]? = some v := by
  have := congrArg (·[0]?) h
  simpa [List.getElem?_take, List.getElem?_drop] using this
theorem fieldA_i64 {fuel : Nat} {t : TypeId} {cs : List Value} {j : Nat} {x : Option (DataW H × List MemPlace)} (ht : P.underlying t = some (.int .i64)) (hc : P.cellsOf t = 1)
    (h : DataW.trod enc P w base spare held fuel t ((cs.drop j).take (P.cellsOf t)) = x) (hx : x ≠ none) : ∃ n, cs[j]? = some (iv n) ∧ i64ok n := by
  cases x with
  | none => exact absurd rfl hx
  | some x =>
    obtain ⟨n, h1, _, h2⟩ := DataW.trod_int ht h
    rw [hc] at h1
    exact ⟨n, get_of_cutA h1, wf_i64 h2⟩
theorem fieldA_str {fuel : Nat} {t : TypeId} {cs : List Value} {j : Nat} {x : Option (DataW H × List MemPlace)} (ht : P.underlying t = some .string) (hc : P.cellsOf t = 1)
    (h : DataW.trod enc P w base spare held fuel t ((cs.drop j).take (P.cellsOf t)) = x) (hx : x ≠ none) : ∃ l : List UInt8, cs[j]? = some (sv l) ∧ l.length ≤ 9223372036854775807 := by
  cases x with
  | none => exact absurd rfl hx
  | some x =>
    obtain ⟨s, h1, _, h2⟩ := DataW.trod_string ht h
    rw [hc] at h1
    refine ⟨s.data.toList, get_of_cutA h1, ?_⟩
    unfold maxLen at h2
    simpa using h2
/-- A slice whose elements have k cells each: what each element's cells are, by what one element's are. -/
theorem open_recs {α : Type} {Q : α → Prop} {r : Reach} {b0 : Nat} {t e : TypeId} {v : Value} {d : DataW H} {p : List MemPlace} (fc : α → List Value) (k : Nat) (hk : 0 < k) (fl : ∀ x, (fc x).length = k)
    (ht : P.underlying t = some (.slice e)) (ce : P.cellsOf e = k)
    (helem : ∀ (fuel : Nat) (cs : List Value) (y : DataW H × List MemPlace), DataW.trod enc P w base spare held fuel e cs = some y → ∃ x, cs = fc x ∧ Q x)
    (hv : Value.okWide P w r b0 t v) (h : DataW.Trod enc P w base spare held t v d p) :
    ∃ (A : Option Addr) (n c : Nat) (l : List α), v = .slice A n c ∧ Rd w k A n (l.flatMap fc) ∧ n ≤ 9223372036854775807 ∧ ∀ x ∈ l, Q x := by
  obtain ⟨a0, len, cap, rfl⟩ := okWide_slice ht hv
  obtain ⟨fuel, hf⟩ := h
  rcases Go.Deep.open_slice ht hf with ⟨hcs, hx⟩ | ⟨a, len', cap', m, n, D, Pl, hcs, _, hl, hm, hmm, _, hcell⟩
  · simp only [Value.cells, List.cons.injEq, Value.slice.injEq, and_true] at hcs
    obtain ⟨rfl, rfl, rfl⟩ := hcs
    exact ⟨none, 0, 0, [], rfl, Rd.none_, by omega, by simp⟩
  · simp only [Value.cells, List.cons.injEq, Value.slice.injEq, and_true] at hcs
    obtain ⟨rfl, rfl, rfl⟩ := hcs
    have hlm : len ≤ m := by rw [hmm]; split <;> omega
    unfold maxLen at hm
    have each : ∀ i, i < len → ∃ x : α, (∀ j u, (fc x)[j]? = some u → w.cell? (a.add (i * k + j)) = some u) ∧ Q x := fun i hi => by
      obtain ⟨cs', h1, h2⟩ := hcell i (by omega)
      rw [ce] at h1
      obtain ⟨_, hlen, hc⟩ := World.cells?_some h1
      obtain ⟨x, rfl, hq⟩ := helem _ _ _ h2
      refine ⟨x, fun j u hj => ?_, hq⟩
      have hjk : j < k := by have := (List.getElem?_eq_some_iff.1 hj).1; rw [fl] at this; exact this
      have e1 := hc j hjk
      rw [Go.Deep.add_add] at e1
      rw [e1, hj]
    by_cases h0 : len = 0
    · subst h0
      exact ⟨some a, 0, cap, [], rfl, ⟨by simp, fun hn => by omega⟩, by omega, by simp⟩
    haveI : Inhabited α := ⟨(each 0 (by omega)).choose⟩
    obtain ⟨q, hq⟩ := Go.Deep.choose_lt each
    refine ⟨some a, len, cap, (List.range len).map q, rfl, ⟨?_, fun hn => ⟨a, rfl, ?_, ?_⟩⟩, by omega, ?_⟩
    · rw [flat_len fc k _ fun x _ => fl x]; simp
    · have h2 : ∃ u, (fc (q 0))[0]? = some u := ⟨_, List.getElem?_eq_getElem (by rw [fl]; exact hk)⟩
      obtain ⟨u, hu⟩ := h2
      have h1 := (hq 0 (by omega)).1 0 u hu
      have := World.block_lt_of_cell? w _ h1
      rwa [block_of_add] at this
    · intro j u hu
      have h1 := (List.getElem?_eq_some_iff.1 hu).1
      rw [flat_len fc k _ fun x _ => fl x] at h1
      simp only [List.length_map, List.length_range] at h1
      have e := Nat.div_add_mod j k
      have hd : j / k < len := (Nat.div_lt_iff_lt_mul hk).2 h1
      have hmk := Nat.mod_lt j hk
      have hqi : ((List.range len).map q)[j / k]? = some (q (j / k)) := by simp [hd]
      have hu2 : ∃ v, (fc (q (j / k)))[j % k]? = some v := ⟨_, List.getElem?_eq_getElem (by rw [fl]; exact hmk)⟩
      obtain ⟨v, hv⟩ := hu2
      have h3 := flat_get fc k _ (fun x _ => fl x) (j / k) (q (j / k)) hqi (j % k) v hv
      have e2 : j / k * k + j % k = j := by rw [Nat.mul_comm]; exact e
      rw [e2, hu] at h3
      injection h3 with h3
      subst h3
      have := (hq _ hd).1 _ _ hv
      rwa [e2] at this
    · intro x hx
      obtain ⟨i, hi, rfl⟩ := List.mem_map.1 hx
      exact (hq i (List.mem_range.1 hi)).2
/-- A struct's cells, one by one. -/
theorem cells_ext {cs xs : List Value} (hl : cs.length = xs.length) (h : ∀ j, j < xs.length → cs[j]? = xs[j]?) : cs = xs := by
  apply List.ext_getElem?
  intro j
  by_cases hj : j < xs.length
  · exact h j hj
  · rw [List.getElem?_eq_none (by omega), List.getElem?_eq_none (by omega)]
end
end Go.Proofs.Ytnckgkgilnmocaa
set_option linter.unusedSimpArgs false
set_option linter.unusedVariables false
namespace Go.Proofs.Ytnckgkgilnmocaa
open Go.RowKit Go.WideShapes Go.ChangeShapes Go.ChangeAt
section
variable {H : Type} {enc : TypeId × Value → H} {w : World} {base : Nat} {spare : Nat → Bool} {held : Bool}
set_option maxRecDepth 100000 in
theorem rq_elem (fuel : Nat) (cs : List Value) (y : DataW H × List MemPlace) (h : DataW.trod enc Try.prog w base spare held fuel 33 cs = some y) : ∃ x, cs = acQ x ∧ QOk x := by
  obtain ⟨xs, k, _, _, hl, hn, hf⟩ := DataW.trod_struct Try.underlying33 h
  have hns : ∀ i, i < 2 → xs[i]? ≠ none := fun i hi h => by
    have := List.getElem?_eq_none_iff.1 h
    rw [hn] at this
    simp at this
    omega
  obtain ⟨vk, k0, k1⟩ := fieldA_i64 (j := 0) Try.underlying3 (by kernel_rfl) (hf 0 _ rfl) (hns 0 (by omega))
  obtain ⟨vx, x0, x1⟩ := fieldA_str (j := 1) Try.underlying9 (by kernel_rfl) (hf 1 _ rfl) (hns 1 (by omega))
  refine ⟨(vk, vx), cells_ext (hl.trans (by kernel_rfl)) (fun j hj => ?_), k1.1, k1.2, x1⟩
  rcases (by rw [acQ_len] at hj; omega : j = 0 ∨ j = 1) with rfl | rfl
  · exact k0
  · exact x0
set_option maxRecDepth 100000 in
theorem open_actQ {r : Reach} {b0 : Nat} {v : Value} {d : DataW H} {p : List MemPlace} (hv : Value.okWide Try.prog w r b0 22 v) (h : DataW.Trod enc Try.prog w base spare held 22 v d p) :
    ∃ (A : Option Addr) (n c : Nat) (l : List Rq), v = .slice A n c ∧ Rd w 2 A n (qlvs l) ∧ n ≤ 9223372036854775807 ∧ ∀ x ∈ l, QOk x :=
  open_recs acQ 2 (by decide) acQ_len Try.underlying22 (by kernel_rfl) rq_elem hv h
end
end Go.Proofs.Ytnckgkgilnmocaa
