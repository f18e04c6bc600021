/- The statement WeavePlays, from its walk. No condition but those that each theorem names. -/
import Derived.Test.YtlhedbjjlomniaaW14
import Derived.Test.YtlhedbjjlomniaaW6
import Derived.Test.YtlhedbjjlomniaaW7
import Derived.SizedLaws
set_option linter.unusedSimpArgs false
set_option linter.unusedVariables false
namespace Go.Proofs.Ytlhedbjjlomniaa
open Go.RowKit
attribute [local go_sem] extract_mid extract_drop bget bsize wrap64_u8 i64_u8 u64_u8 bappend
/-- Three parts as one. -/
def conj3 (x y z : SProp) : SProp where
  fp k := x.fp k ∨ y.fp k ∨ z.fp k
  ro := false
  holds w := (x.holds w ∧ y.holds w ∧ z.holds w) ∧ (x.ro = false ∧ y.ro = false ∧ z.ro = false) ∧ compat x y ∧ compat x z ∧ compat y z
  lt w h k hk := by
    rcases hk with hk | hk | hk
    · exact x.lt w h.1.1 k hk
    · exact y.lt w h.1.2.1 k hk
    · exact z.lt w h.1.2.2 k hk
  stable w w' ho h := ⟨⟨x.stable w w' ⟨ho.os, ho.tape, ho.output, ho.size, fun k hk => ho.block k (.inl hk)⟩ h.1.1, y.stable w w' ⟨ho.os, ho.tape, ho.output, ho.size, fun k hk => ho.block k (.inr (.inl hk))⟩ h.1.2.1, z.stable w w' ⟨ho.os, ho.tape, ho.output, ho.size, fun k hk => ho.block k (.inr (.inr hk))⟩ h.1.2.2⟩, h.2⟩
theorem compat_off {x u : SProp} (h : compat x u) (hx : x.ro = false) : ∀ k, x.fp k → ¬ u.fp k := by
  rcases h with ⟨h, _⟩ | h
  · rw [hx] at h; cases h
  · exact h
theorem Star.join3 {x y z : SProp} {L : List SProp} {w : World} (h : Star (x :: y :: z :: L) w) (hx : x.ro = false) (hy : y.ro = false) (hz : z.ro = false) : Star (conj3 x y z :: L) w := by
  obtain ⟨ha, hp⟩ := h
  obtain ⟨p1, hp⟩ := List.pairwise_cons.1 hp
  obtain ⟨p2, hp⟩ := List.pairwise_cons.1 hp
  obtain ⟨p3, hp⟩ := List.pairwise_cons.1 hp
  refine ⟨fun u hu => ?_, List.pairwise_cons.2 ⟨fun u hu => .inr fun k hk => ?_, hp⟩⟩
  · rcases List.mem_cons.1 hu with rfl | hu
    · exact ⟨⟨ha _ (by simp), ha _ (by simp), ha _ (by simp)⟩, ⟨hx, hy, hz⟩, p1 _ (by simp), p1 _ (by simp), p2 _ (by simp)⟩
    · exact ha u (by simp [hu])
  · rcases hk with hk | hk | hk
    · exact compat_off (p1 u (by simp [hu])) hx k hk
    · exact compat_off (p2 u (by simp [hu])) hy k hk
    · exact compat_off (p3 u (by simp [hu])) hz k hk
theorem Star.open3 {x y z : SProp} {L : List SProp} {w : World} (h : Star (conj3 x y z :: L) w) : Star (x :: y :: z :: L) w := by
  obtain ⟨ha, hp⟩ := h
  obtain ⟨p1, hp⟩ := List.pairwise_cons.1 hp
  obtain ⟨⟨hx, hy, hz⟩, ⟨rx, ry, rz⟩, cxy, cxz, cyz⟩ := ha _ List.mem_cons_self
  have off : ∀ u ∈ L, ∀ k, (conj3 x y z).fp k → ¬ u.fp k := fun u hu => compat_off (p1 u hu) rfl
  refine ⟨fun u hu => ?_, List.pairwise_cons.2 ⟨fun u hu => ?_, List.pairwise_cons.2 ⟨fun u hu => ?_, List.pairwise_cons.2 ⟨fun u hu => ?_, hp⟩⟩⟩⟩
  · simp only [List.mem_cons] at hu
    rcases hu with rfl | rfl | rfl | hu
    · exact hx
    · exact hy
    · exact hz
    · exact ha u (List.mem_cons_of_mem _ hu)
  · simp only [List.mem_cons] at hu
    rcases hu with rfl | rfl | hu
    · exact cxy
    · exact cxz
    · exact .inr fun k hk => off u hu k (.inl hk)
  · rcases List.mem_cons.1 hu with rfl | hu
    · exact cyz
    · exact .inr fun k hk => off u hu k (.inr (.inl hk))
  · exact .inr fun k hk => off u hu k (.inr (.inr hk))
/-- P is a weave at block b that holds W. -/
inductive IsW (b : Nat) (W : Wv) : SProp → Prop
  | live (A : Option Addr) (c : Nat) (q B : Option Addr) (d : Nat) (hq : q = none ∨ q = some ⟨b, 1, none⟩) (hH : headA B) (hB : W.out ≠ [] ∨ B = none) : IsW b W (conj3 (wvE b A W.left.length c q B W.out.length d W.got) (tailE 135 34 A W.left.length c (tvs W.left.reverse)) (tailE 5 1 B W.out.length d (bvs W.out)))
  | over (A : Option Addr) (c : Nat) (q B : Option Addr) (d : Nat) (hl : W.left = []) (hd : B = none ∨ d ≠ 0) : IsW b W (conj3 (wvE b A 0 c q B W.out.length d W.got) (tailE 135 34 A 0 c (tvs [])) (heldE B W.out))
theorem give_any {F : List SProp} {b q0 : Nat} {x : List UInt8} (T : Txt x) {W : Wv} (hW : Wok q0 W) (hq0 : q0 ≤ 1000) {P : SProp} (hP : IsW b W P) (w : World) (hM : Star (P :: F) w) :
    Calls Try.prog 41 #[.pointer (some ⟨b, 0, none⟩), .string ⟨x.toArray⟩] w fun r w' => ∃ P', IsW b (giveW W x).1 P' ∧ r = .returned (.int .i64 (giveW W x).2) ∧ Star (P' :: F) w' := by
  cases hP with
  | live A c q B d hq hH hB =>
    exact (give_w T hW hq0 w ⟨A, c, q, B, d, hq, hH, hB, hM.open3⟩).mono fun _ _ ⟨e, A', c', q', B', d', h1, h2, h3, h4⟩ => ⟨_, .live A' c' q' B' d' h1 h2 h3, e, h4.join3 rfl rfl rfl⟩
  | over A c q B d hl hd =>
    have hg : giveW W x = (W, 15) := by unfold giveW; rw [hl]
    rw [hg]
    exact (give_over w hM.open3 List.mem_cons_self).mono fun _ _ ⟨e, h⟩ => ⟨_, .over A c q B d hl hd, e, h.join3 rfl rfl rfl⟩
theorem is_any {F : List SProp} {b q0 : Nat} {W : Wv} (hW : Wok q0 W) (hq0 : q0 ≤ 1000) {P : SProp} (hP : IsW b W P) {A' : Option Addr} {c' : Nat} (w : World) (hM : Star (P :: F) w) (hU : rowE 3 A' W.left.length (usvs W.left) ∈ F) :
    Calls Try.prog 48 #[.pointer (some ⟨b, 0, none⟩), .agg (rwC A' W.left.length c' W.out W.got)] w fun r w' => ∃ P', IsW b W P' ∧ r = .returned (.bool true) ∧ Star (P' :: F) w' := by
  have h32 : okS W.left := fun s hs => (hW.step s hs).1
  cases hP with
  | live A c q B d hq hH hB =>
    have hM2 := hM.open3
    by_cases hl : W.left = []
    · have hd : B = none ∨ d ≠ 0 := by
        rcases hB with h | h
        · have hc := Tail.cap (hM2.tail.tail.head)
          have := List.length_pos_iff.2 h
          exact .inr (by omega)
        · exact .inl h
      have hn : W.left.length = 0 := by rw [hl]; rfl
      rw [hn] at hM2 hU ⊢
      rw [hl] at hM2
      have h3 : Star (heldE B W.out :: wvE b A 0 c q B W.out.length d W.got :: tailE 135 34 A 0 c (tvs []) :: F) w := (hM2.take (x := tailE 5 1 B W.out.length d (bvs W.out)) (.tail (.tail .head))).held_of_tail hH hB
      exact (is10_over hd w h3 List.mem_cons_self (List.mem_cons_of_mem _ List.mem_cons_self)).mono fun _ _ ⟨e, h⟩ => ⟨_, .over A c q B d hl hd, e, (h.take3 (.tail .head) (.tail .head) .head).join3 rfl rfl rfl⟩
    · exact (is10_busy rfl (List.length_pos_iff.2 hl) h32 (by have := hW.len; omega) w hM2 List.mem_cons_self (List.mem_cons_of_mem _ List.mem_cons_self) (List.mem_cons_of_mem _ (List.mem_cons_of_mem _ (List.mem_cons_of_mem _ hU)))).mono fun _ _ ⟨e, h⟩ => ⟨_, .live A c q B d hq hH hB, e, h.join3 rfl rfl rfl⟩
  | over A c q B d hl hd =>
    have h3 := hM.open3.take (x := heldE B W.out) (.tail (.tail .head))
    have hn : W.left.length = 0 := by rw [hl]; rfl
    rw [hn]
    exact (is10_over hd w h3 List.mem_cons_self (List.mem_cons_of_mem _ List.mem_cons_self)).mono fun _ _ ⟨e, h⟩ => ⟨_, .over A c q B d hl hd, e, (h.take3 (.tail .head) (.tail .head) .head).join3 rfl rfl rfl⟩
/-- Where a row of objects is read. -/
theorem obj_tx {os : List Ob} (h : ∀ o ∈ os, goodO o) {k : Nat} {o : Ob} (hk : os[k]? = some o) : (ovs os)[k * 34 + 33]? = some (.string ⟨o.2.2.toArray⟩) := ovs_tx (fun x hx => good_32 (h x hx)) hk
set_option maxRecDepth 100000 in
set_option maxHeartbeats 8000000 in
theorem find_w {F : List SProp} {os : List Ob} (hos : ∀ o ∈ os, goodO o) {l : List Stp} {U A : Option Addr} {m n cu c : Nat} {o : List UInt8} {g : Int} (hm : os.length = m) (hm2 : m ≤ 1000) (hn : l.length = n) (at_ : Nat) (hat : at_ < m) (w : World) (hM : Star F w) (hU : rowE 34 U m (ovs os) ∈ F) (hA : rowE 3 A n (usvs l) ∈ F) :
    Calls Try.prog 46 #[.slice U m cu, .agg (rwC A n c o g), .int .i64 at_] w fun r w' => ∃ tx : List UInt8, tx.length ≤ 1000 ∧ r = .returned (.string ⟨tx.toArray⟩) ∧ Star F w' := by
  obtain ⟨ad, rfl, _, _⟩ := (hM.row hU).2 (by omega)
  have HOS := Lib.hid hos
  have HML := Lib.hid hm
  obtain ⟨oa, hoa⟩ : ∃ oa, os[at_]? = some oa := ⟨_, List.getElem?_eq_getElem (by omega)⟩
  obtain ⟨⟨ka, ia, ta⟩, rfl⟩ : ∃ x : Ob, oa = x := ⟨_, rfl⟩
  have HTA : Hid ((ovs os)[at_ * 34 + 33]? = some (.string ⟨ta.toArray⟩)) := obj_tx hos hoa
  have hta : ta.length ≤ 1000 := by obtain ⟨_, _, _, _, h⟩ := hos _ (List.mem_of_getElem? hoa); exact h
  have HTL := Lib.hid hta
  have hat2 : (at_ : Int) < (m : Int) := by omega
  have hm0 : 0 < m := by omega
  clear hoa hta hos hm
  go_enter Try.func46, Try.ntmps46
  go_wp2_with (first | (first | ((with_reducible refine at_box' ?_); (have hM0 := hM; clear hM; refine BigFrame.wpList_want (by rfl) fun K hK => ws_box hM0 rfl rfl (cs := rwC A n c o g) rfl (fun g4 w hM => hK _ _ ?_); clear hM0 hK K)) | fail))
  go_loopw [11] (fun i wr => ∃ (k : Nat), k ≤ m ∧ i = .int .i64 k ∧ Star (cellsE g4 90 (rwC A n c o g) :: F) wr) (fun i _ => m - (intOf i).toNat)
  case atStart => exact ⟨0, by omega, rfl, hM.sel (by repeat (first | (with_reducible exact Sel.refl) | (with_reducible exact Take.head) | (with_reducible apply Take.tail) | (with_reducible apply Sel.cons) | (with_reducible apply Sel.drop)))⟩
  case round =>
    clear hM
    obtain ⟨k, hk, rfl, hM⟩ := hrel
    by_cases hlt : k < m
    · obtain ⟨ob, hob⟩ : ∃ ob, os[k]? = some ob := ⟨_, List.getElem?_eq_getElem (by have := HML.out; omega)⟩
      have hgo := HOS.out _ (List.mem_of_getElem? hob)
      obtain ⟨⟨kk, id, tx⟩, rfl⟩ : ∃ x : Ob, ob = x := ⟨_, rfl⟩
      have hid := good_32 hgo
      have htx : tx.length ≤ 1000 := by obtain ⟨_, _, _, _, h⟩ := hgo; exact h
      simp only at hid
      have HOC : Hid (∀ j v, (ocs (kk, id, tx))[j]? = some v → (ovs os)[k * 34 + j]? = some v) := fun j v hj => flat_get ocs 34 os (fun x hx => ocs_len (good_32 (HOS.out x hx))) k _ hob j v hj
      have HOB := Lib.hid (fun (L : List SProp) (w : World) (hM : Star L w) => obytes_star id hid w hM)
      have HK33 : Hid ((ocs (kk, id, tx)).toArray[33]? = some (.string ⟨tx.toArray⟩)) := ocs_33 (o := (kk, id, tx)) hid
      have HID := Lib.hid hid
      have HOSZ : Hid ((ocs (kk, id, tx)).toArray.size = 34) := ocs_sz (o := (kk, id, tx)) hid
      have HOL : Hid ((ocs (kk, id, tx)).length = 34) := ocs_len (o := (kk, id, tx)) hid
      have HOS0 : Hid ((ocs (0, z32, [])).toArray.size = 34) := ocs_sz oz32
      have HTXL := Lib.hid htx
      clear hob hgo hid htx
      go_wp2_with (first | ((with_reducible refine at_load' ?_); refine BigFrame.wpList_want (by rfl) fun K hK => ws_load_at rfl rfl (ocs (kk, id, tx)) ((hM.row (A := some ad) (n := m) (xs := ovs os) (by (repeat (first | assumption | (with_reducible exact mZ) | apply mS)); first | done | fail)).part (o := k * 34) hm0 HOC.out) (n := 34) HOL.out (by decide +kernel) (hK _ _ ?_); clear hK K) | (first | ((with_reducible refine at_alloc' ?_); (have hM0 := hM; clear hM; refine BigFrame.wpList_want (by rfl) fun K hK => ws_alloc hM0 (t := 76) rfl (ocs (0, z32, [])).toArray info_ob (fun g8 w hM => hK _ _ ?_); clear hM0 hK K)) | fail) | (first | ((with_reducible refine at_store' ?_); (have hM0 := hM; clear hM; refine BigFrame.wpList_want (by rfl) fun K hK => ws_store hM0 rfl rfl rfl (by (repeat (first | (with_reducible exact Take.head) | apply Take.tail)); first | done | fail) (n := 34) (by exact HOSZ.out) (by exact HOS0.out) (by kernel_rfl) (by exact ocs_oneA _) (fun w hM => hK _ _ ?_); clear hM0 hK K)) | fail))
      by_cases hn0 : n = 0
      · subst hn0
        (refine region_RS ([cellsE g4 90 (rwC A 0 c o g)]) [] (by kernel_rfl) hM ?_; clear hM; change RS _ _ _ _ _ _ 16 (Array.replicate 16 false) _ _; refine RS_take (i := 0) rfl (by decide +kernel) (fun _ _ _ h => h) (by first | (intro x hx; (repeat (first | exact hx | apply mS)); done) | ((repeat (refine List.forall_mem_cons.2 ⟨(by (repeat (first | assumption | (with_reducible exact mZ) | apply mS)); first | done | fail), ?_⟩)); intro x hx; first | (cases hx; done) | ((repeat (first | exact hx | apply mS)); done))) (stab_pure (by rfl) (fun w => (by go_simp; try with_reducible rfl))) ?_; simp only [Act.put, List.setIfInBounds_toArray, List.set_cons_zero, List.set_cons_succ]; refine RS_take (i := 1) rfl (by decide +kernel) (fun _ _ _ h => h) (by first | (intro x hx; (repeat (first | exact hx | apply mS)); done) | ((repeat (refine List.forall_mem_cons.2 ⟨(by (repeat (first | assumption | (with_reducible exact mZ) | apply mS)); first | done | fail), ?_⟩)); intro x hx; first | (cases hx; done) | ((repeat (first | exact hx | apply mS)); done))) (stab_read (by rfl) (fun L w hL hM => (ex_load1 (v := .slice A 0 c) hM rfl rfl (hL _ (by (repeat (first | assumption | (with_reducible exact mZ) | apply mS)); first | done | fail)) rfl (by decide +kernel)))) ?_; simp only [Act.put, List.setIfInBounds_toArray, List.set_cons_zero, List.set_cons_succ]; refine RS_take (i := 2) rfl (by decide +kernel) (fun _ _ _ h => h) (by first | (intro x hx; (repeat (first | exact hx | apply mS)); done) | ((repeat (refine List.forall_mem_cons.2 ⟨(by (repeat (first | assumption | (with_reducible exact mZ) | apply mS)); first | done | fail), ?_⟩)); intro x hx; first | (cases hx; done) | ((repeat (first | exact hx | apply mS)); done))) (stab_pure (by rfl) (fun w => (by go_simp; try with_reducible rfl))) ?_; simp only [Act.put, List.setIfInBounds_toArray, List.set_cons_zero, List.set_cons_succ]; refine RS_take (i := 3) rfl (by decide +kernel) (fun _ _ _ h => h) (by first | (intro x hx; (repeat (first | exact hx | apply mS)); done) | ((repeat (refine List.forall_mem_cons.2 ⟨(by (repeat (first | assumption | (with_reducible exact mZ) | apply mS)); first | done | fail), ?_⟩)); intro x hx; first | (cases hx; done) | ((repeat (first | exact hx | apply mS)); done))) (stab_read (by rfl) (fun L w hL hM => (ex_gt rfl rfl rfl (b := false) (by simp)))) ?_; simp only [Act.put, List.setIfInBounds_toArray, List.set_cons_zero, List.set_cons_succ]; refine RS_take (i := 4) rfl (by decide +kernel) (fun _ _ _ h => h) (by first | (intro x hx; (repeat (first | exact hx | apply mS)); done) | ((repeat (refine List.forall_mem_cons.2 ⟨(by (repeat (first | assumption | (with_reducible exact mZ) | apply mS)); first | done | fail), ?_⟩)); intro x hx; first | (cases hx; done) | ((repeat (first | exact hx | apply mS)); done))) (stab_pure (by rfl) (fun w => (by go_simp; try with_reducible rfl))) ?_; simp only [Act.put, List.setIfInBounds_toArray, List.set_cons_zero, List.set_cons_succ]; refine RS_take (i := 5) rfl (by decide +kernel) (fun _ _ _ h => h) (by first | (intro x hx; (repeat (first | exact hx | apply mS)); done) | ((repeat (refine List.forall_mem_cons.2 ⟨(by (repeat (first | assumption | (with_reducible exact mZ) | apply mS)); first | done | fail), ?_⟩)); intro x hx; first | (cases hx; done) | ((repeat (first | exact hx | apply mS)); done))) (stab_skip (by rfl)) ?_; simp only [Act.put, List.setIfInBounds_toArray, List.set_cons_zero, List.set_cons_succ]; refine RS_take (i := 6) rfl (by decide +kernel) (fun _ _ _ h => h) (by first | (intro x hx; (repeat (first | exact hx | apply mS)); done) | ((repeat (refine List.forall_mem_cons.2 ⟨(by (repeat (first | assumption | (with_reducible exact mZ) | apply mS)); first | done | fail), ?_⟩)); intro x hx; first | (cases hx; done) | ((repeat (first | exact hx | apply mS)); done))) (stab_skip (by rfl)) ?_; simp only [Act.put, List.setIfInBounds_toArray, List.set_cons_zero, List.set_cons_succ]; refine RS_take (i := 7) rfl (by decide +kernel) (fun _ _ _ h => h) (by first | (intro x hx; (repeat (first | exact hx | apply mS)); done) | ((repeat (refine List.forall_mem_cons.2 ⟨(by (repeat (first | assumption | (with_reducible exact mZ) | apply mS)); first | done | fail), ?_⟩)); intro x hx; first | (cases hx; done) | ((repeat (first | exact hx | apply mS)); done))) (stab_skip (by rfl)) ?_; simp only [Act.put, List.setIfInBounds_toArray, List.set_cons_zero, List.set_cons_succ]; refine RS_take (i := 8) rfl (by decide +kernel) (fun _ _ _ h => h) (by first | (intro x hx; (repeat (first | exact hx | apply mS)); done) | ((repeat (refine List.forall_mem_cons.2 ⟨(by (repeat (first | assumption | (with_reducible exact mZ) | apply mS)); first | done | fail), ?_⟩)); intro x hx; first | (cases hx; done) | ((repeat (first | exact hx | apply mS)); done))) (stab_skip (by rfl)) ?_; simp only [Act.put, List.setIfInBounds_toArray, List.set_cons_zero, List.set_cons_succ]; refine RS_take (i := 9) rfl (by decide +kernel) (fun _ _ _ h => h) (by first | (intro x hx; (repeat (first | exact hx | apply mS)); done) | ((repeat (refine List.forall_mem_cons.2 ⟨(by (repeat (first | assumption | (with_reducible exact mZ) | apply mS)); first | done | fail), ?_⟩)); intro x hx; first | (cases hx; done) | ((repeat (first | exact hx | apply mS)); done))) (stab_skip (by rfl)) ?_; simp only [Act.put, List.setIfInBounds_toArray, List.set_cons_zero, List.set_cons_succ]; refine RS_take (i := 10) rfl (by decide +kernel) (fun _ _ _ h => h) (by first | (intro x hx; (repeat (first | exact hx | apply mS)); done) | ((repeat (refine List.forall_mem_cons.2 ⟨(by (repeat (first | assumption | (with_reducible exact mZ) | apply mS)); first | done | fail), ?_⟩)); intro x hx; first | (cases hx; done) | ((repeat (first | exact hx | apply mS)); done))) (stab_skip (by rfl)) ?_; simp only [Act.put, List.setIfInBounds_toArray, List.set_cons_zero, List.set_cons_succ]; refine RS_take (i := 11) rfl (by decide +kernel) (fun _ _ _ h => h) (by first | (intro x hx; (repeat (first | exact hx | apply mS)); done) | ((repeat (refine List.forall_mem_cons.2 ⟨(by (repeat (first | assumption | (with_reducible exact mZ) | apply mS)); first | done | fail), ?_⟩)); intro x hx; first | (cases hx; done) | ((repeat (first | exact hx | apply mS)); done))) (stab_skip (by rfl)) ?_; simp only [Act.put, List.setIfInBounds_toArray, List.set_cons_zero, List.set_cons_succ]; refine RS_take (i := 12) rfl (by decide +kernel) (fun _ _ _ h => h) (by first | (intro x hx; (repeat (first | exact hx | apply mS)); done) | ((repeat (refine List.forall_mem_cons.2 ⟨(by (repeat (first | assumption | (with_reducible exact mZ) | apply mS)); first | done | fail), ?_⟩)); intro x hx; first | (cases hx; done) | ((repeat (first | exact hx | apply mS)); done))) (stab_skip (by rfl)) ?_; simp only [Act.put, List.setIfInBounds_toArray, List.set_cons_zero, List.set_cons_succ]; refine RS_take (i := 13) rfl (by decide +kernel) (fun _ _ _ h => h) (by first | (intro x hx; (repeat (first | exact hx | apply mS)); done) | ((repeat (refine List.forall_mem_cons.2 ⟨(by (repeat (first | assumption | (with_reducible exact mZ) | apply mS)); first | done | fail), ?_⟩)); intro x hx; first | (cases hx; done) | ((repeat (first | exact hx | apply mS)); done))) (stab_skip (by rfl)) ?_; simp only [Act.put, List.setIfInBounds_toArray, List.set_cons_zero, List.set_cons_succ]; refine RS_take (i := 14) rfl (by decide +kernel) (fun _ _ _ h => h) (by first | (intro x hx; (repeat (first | exact hx | apply mS)); done) | ((repeat (refine List.forall_mem_cons.2 ⟨(by (repeat (first | assumption | (with_reducible exact mZ) | apply mS)); first | done | fail), ?_⟩)); intro x hx; first | (cases hx; done) | ((repeat (first | exact hx | apply mS)); done))) (stab_skip (by rfl)) ?_; simp only [Act.put, List.setIfInBounds_toArray, List.set_cons_zero, List.set_cons_succ]; refine RS_take (i := 15) rfl (by decide +kernel) (fun _ _ _ h => h) (by first | (intro x hx; (repeat (first | exact hx | apply mS)); done) | ((repeat (refine List.forall_mem_cons.2 ⟨(by (repeat (first | assumption | (with_reducible exact mZ) | apply mS)); first | done | fail), ?_⟩)); intro x hx; first | (cases hx; done) | ((repeat (first | exact hx | apply mS)); done))) (stab_pure (by rfl) (fun w => (by go_simp; try with_reducible rfl))) ?_; simp only [Act.put, List.setIfInBounds_toArray, List.set_cons_zero, List.set_cons_succ]; refine RS_done (by decide +kernel) (.inl (by first | (intro x hx; (repeat (first | exact hx | apply mS)); done) | ((repeat (refine List.forall_mem_cons.2 ⟨(by (repeat (first | assumption | (with_reducible exact mZ) | apply mS)); first | done | fail), ?_⟩)); intro x hx; first | (cases hx; done) | ((repeat (first | exact hx | apply mS)); done)))) (fun w hM => ?_))
        go_wp2_with fail
        go_roundw
        case rel => exact ⟨k + 1, by omega, by go_num, hM.sel (by repeat (first | (with_reducible exact Sel.refl) | (with_reducible exact Take.head) | (with_reducible apply Take.tail) | (with_reducible apply Sel.cons) | (with_reducible apply Sel.drop)))⟩
        case measure => simp [intOf]; omega
      · obtain ⟨sid, sz, slv, rest, hl⟩ : ∃ sid sz slv rest, l = ((sid, sz), slv) :: rest := by
          cases l with
          | nil => simp at hn; omega
          | cons s rest => exact ⟨s.1.1, s.1.2, s.2, rest, rfl⟩
        have HS0 : Hid ((usvs l)[0]? = some (.string ⟨sid.toArray⟩)) := by show _ = _; rw [hl]; rfl
        clear hl
        obtain ⟨adA, rfl, _, _⟩ := (hM.row (A := A) (n := n) (xs := usvs l) (List.mem_cons_of_mem _ (List.mem_cons_of_mem _ hA))).2 (by omega)
        have hn2 : (0 : Int) < (n : Int) := by omega
        have hn3 : 0 < n := by omega
        clear hn
        by_cases heq : id = sid
        · have HEQ : Hid (decide (id = sid) = true) := by show _ = _; simpa using heq
          clear heq
          (refine region_RS ([cellsE g4 90 (rwC (some adA) n c o g), cellsE g8 76 (ocs (kk, id, tx)).toArray, rowE 3 (some adA) n (usvs l)]) [] (by kernel_rfl) hM ?_; clear hM; change RS _ _ _ _ _ _ 16 (Array.replicate 16 false) _ _; refine RS_take (i := 0) rfl (by decide +kernel) (fun _ _ _ h => h) (by first | (intro x hx; (repeat (first | exact hx | apply mS)); done) | ((repeat (refine List.forall_mem_cons.2 ⟨(by (repeat (first | assumption | (with_reducible exact mZ) | apply mS)); first | done | fail), ?_⟩)); intro x hx; first | (cases hx; done) | ((repeat (first | exact hx | apply mS)); done))) (stab_pure (by rfl) (fun w => (by go_simp; try with_reducible rfl))) ?_; simp only [Act.put, List.setIfInBounds_toArray, List.set_cons_zero, List.set_cons_succ]; refine RS_take (i := 1) rfl (by decide +kernel) (fun _ _ _ h => h) (by first | (intro x hx; (repeat (first | exact hx | apply mS)); done) | ((repeat (refine List.forall_mem_cons.2 ⟨(by (repeat (first | assumption | (with_reducible exact mZ) | apply mS)); first | done | fail), ?_⟩)); intro x hx; first | (cases hx; done) | ((repeat (first | exact hx | apply mS)); done))) (stab_read (by rfl) (fun L w hL hM => (ex_load1 (v := .slice (some adA) n c) hM rfl rfl (hL _ (by (repeat (first | assumption | (with_reducible exact mZ) | apply mS)); first | done | fail)) rfl (by decide +kernel)))) ?_; simp only [Act.put, List.setIfInBounds_toArray, List.set_cons_zero, List.set_cons_succ]; refine RS_take (i := 2) rfl (by decide +kernel) (fun _ _ _ h => h) (by first | (intro x hx; (repeat (first | exact hx | apply mS)); done) | ((repeat (refine List.forall_mem_cons.2 ⟨(by (repeat (first | assumption | (with_reducible exact mZ) | apply mS)); first | done | fail), ?_⟩)); intro x hx; first | (cases hx; done) | ((repeat (first | exact hx | apply mS)); done))) (stab_pure (by rfl) (fun w => (by go_simp; try with_reducible rfl))) ?_; simp only [Act.put, List.setIfInBounds_toArray, List.set_cons_zero, List.set_cons_succ]; refine RS_take (i := 3) rfl (by decide +kernel) (fun _ _ _ h => h) (by first | (intro x hx; (repeat (first | exact hx | apply mS)); done) | ((repeat (refine List.forall_mem_cons.2 ⟨(by (repeat (first | assumption | (with_reducible exact mZ) | apply mS)); first | done | fail), ?_⟩)); intro x hx; first | (cases hx; done) | ((repeat (first | exact hx | apply mS)); done))) (stab_read (by rfl) (fun L w hL hM => (ex_gt rfl rfl rfl (b := true) (by simp; omega)))) ?_; simp only [Act.put, List.setIfInBounds_toArray, List.set_cons_zero, List.set_cons_succ]; refine RS_take (i := 4) rfl (by decide +kernel) (fun _ _ _ h => h) (by first | (intro x hx; (repeat (first | exact hx | apply mS)); done) | ((repeat (refine List.forall_mem_cons.2 ⟨(by (repeat (first | assumption | (with_reducible exact mZ) | apply mS)); first | done | fail), ?_⟩)); intro x hx; first | (cases hx; done) | ((repeat (first | exact hx | apply mS)); done))) (stab_pure (by rfl) (fun w => (by go_simp; try with_reducible rfl))) ?_; simp only [Act.put, List.setIfInBounds_toArray, List.set_cons_zero, List.set_cons_succ]; refine RS_take (i := 5) rfl (by decide +kernel) (fun _ _ _ h => h) (by first | (intro x hx; (repeat (first | exact hx | apply mS)); done) | ((repeat (refine List.forall_mem_cons.2 ⟨(by (repeat (first | assumption | (with_reducible exact mZ) | apply mS)); first | done | fail), ?_⟩)); intro x hx; first | (cases hx; done) | ((repeat (first | exact hx | apply mS)); done))) (stab_pure (by rfl) (fun w => (by go_simp; try with_reducible rfl))) ?_; simp only [Act.put, List.setIfInBounds_toArray, List.set_cons_zero, List.set_cons_succ]; refine RS_take (i := 6) rfl (by decide +kernel) (fun _ _ _ h => h) (by first | (intro x hx; (repeat (first | exact hx | apply mS)); done) | ((repeat (refine List.forall_mem_cons.2 ⟨(by (repeat (first | assumption | (with_reducible exact mZ) | apply mS)); first | done | fail), ?_⟩)); intro x hx; first | (cases hx; done) | ((repeat (first | exact hx | apply mS)); done))) (stab_read (by rfl) (fun L w hL hM => (ex_load_mid hM rfl rfl (hL _ (by (repeat (first | assumption | (with_reducible exact mZ) | apply mS)); first | done | fail)) (bvs id) (ocs_id (kk, id, tx)) (n := 32) (by rw [bvs_len]; exact HID.out) (by decide +kernel)))) ?_; simp only [Act.put, List.setIfInBounds_toArray, List.set_cons_zero, List.set_cons_succ]; refine RS_take (i := 7) rfl (by decide +kernel) (fun _ _ _ h => h) (by first | (intro x hx; (repeat (first | exact hx | apply mS)); done) | ((repeat (refine List.forall_mem_cons.2 ⟨(by (repeat (first | assumption | (with_reducible exact mZ) | apply mS)); first | done | fail), ?_⟩)); intro x hx; first | (cases hx; done) | ((repeat (first | exact hx | apply mS)); done))) (stab_call (by rfl) (fun w => (by go_simp; try with_reducible rfl)) (fun L w hL hM => (HOB.out _ w hM))) ?_; simp only [Act.put, List.setIfInBounds_toArray, List.set_cons_zero, List.set_cons_succ]; refine RS_take (i := 8) rfl (by decide +kernel) (fun _ _ _ h => h) (by first | (intro x hx; (repeat (first | exact hx | apply mS)); done) | ((repeat (refine List.forall_mem_cons.2 ⟨(by (repeat (first | assumption | (with_reducible exact mZ) | apply mS)); first | done | fail), ?_⟩)); intro x hx; first | (cases hx; done) | ((repeat (first | exact hx | apply mS)); done))) (stab_pure (by rfl) (fun w => (by go_simp; try with_reducible rfl))) ?_; simp only [Act.put, List.setIfInBounds_toArray, List.set_cons_zero, List.set_cons_succ]; refine RS_take (i := 9) rfl (by decide +kernel) (fun _ _ _ h => h) (by first | (intro x hx; (repeat (first | exact hx | apply mS)); done) | ((repeat (refine List.forall_mem_cons.2 ⟨(by (repeat (first | assumption | (with_reducible exact mZ) | apply mS)); first | done | fail), ?_⟩)); intro x hx; first | (cases hx; done) | ((repeat (first | exact hx | apply mS)); done))) (stab_read (by rfl) (fun L w hL hM => (ex_load1 (v := .slice (some adA) n c) hM rfl rfl (hL _ (by (repeat (first | assumption | (with_reducible exact mZ) | apply mS)); first | done | fail)) rfl (by decide +kernel)))) ?_; simp only [Act.put, List.setIfInBounds_toArray, List.set_cons_zero, List.set_cons_succ]; refine RS_take (i := 10) rfl (by decide +kernel) (fun _ _ _ h => h) (by first | (intro x hx; (repeat (first | exact hx | apply mS)); done) | ((repeat (refine List.forall_mem_cons.2 ⟨(by (repeat (first | assumption | (with_reducible exact mZ) | apply mS)); first | done | fail), ?_⟩)); intro x hx; first | (cases hx; done) | ((repeat (first | exact hx | apply mS)); done))) (stab_pure (by rfl) (fun w => (by go_simp; try with_reducible rfl))) ?_; simp only [Act.put, List.setIfInBounds_toArray, List.set_cons_zero, List.set_cons_succ]; refine RS_take (i := 11) rfl (by decide +kernel) (fun _ _ _ h => h) (by first | (intro x hx; (repeat (first | exact hx | apply mS)); done) | ((repeat (refine List.forall_mem_cons.2 ⟨(by (repeat (first | assumption | (with_reducible exact mZ) | apply mS)); first | done | fail), ?_⟩)); intro x hx; first | (cases hx; done) | ((repeat (first | exact hx | apply mS)); done))) (stab_pure (by rfl) (fun w => (by go_simp; try with_reducible rfl))) ?_; simp only [Act.put, List.setIfInBounds_toArray, List.set_cons_zero, List.set_cons_succ]; refine RS_take (i := 12) rfl (by decide +kernel) (fun _ _ _ h => h) (by first | (intro x hx; (repeat (first | exact hx | apply mS)); done) | ((repeat (refine List.forall_mem_cons.2 ⟨(by (repeat (first | assumption | (with_reducible exact mZ) | apply mS)); first | done | fail), ?_⟩)); intro x hx; first | (cases hx; done) | ((repeat (first | exact hx | apply mS)); done))) (stab_pure (by rfl) (fun w => (by go_simp; try with_reducible rfl))) ?_; simp only [Act.put, List.setIfInBounds_toArray, List.set_cons_zero, List.set_cons_succ]; refine RS_take (i := 13) rfl (by decide +kernel) (fun _ _ _ h => h) (by first | (intro x hx; (repeat (first | exact hx | apply mS)); done) | ((repeat (refine List.forall_mem_cons.2 ⟨(by (repeat (first | assumption | (with_reducible exact mZ) | apply mS)); first | done | fail), ?_⟩)); intro x hx; first | (cases hx; done) | ((repeat (first | exact hx | apply mS)); done))) (stab_read (by rfl) (fun L w hL hM => (ex_rowload (k := 0) rfl (by rfl) ((hM.row (hL (rowE 3 (some adA) n (usvs l)) (by (repeat (first | assumption | (with_reducible exact mZ) | apply mS)); first | done | fail))).flat (by omega)) HS0.out (by decide +kernel)))) ?_; simp only [Act.put, List.setIfInBounds_toArray, List.set_cons_zero, List.set_cons_succ]; refine RS_take (i := 14) rfl (by decide +kernel) (fun _ _ _ h => h) (by first | (intro x hx; (repeat (first | exact hx | apply mS)); done) | ((repeat (refine List.forall_mem_cons.2 ⟨(by (repeat (first | assumption | (with_reducible exact mZ) | apply mS)); first | done | fail), ?_⟩)); intro x hx; first | (cases hx; done) | ((repeat (first | exact hx | apply mS)); done))) (stab_read (by rfl) (fun L w hL hM => (ex_eqs rfl rfl rfl (b := true) HEQ.out))) ?_; simp only [Act.put, List.setIfInBounds_toArray, List.set_cons_zero, List.set_cons_succ]; refine RS_take (i := 15) rfl (by decide +kernel) (fun _ _ _ h => h) (by first | (intro x hx; (repeat (first | exact hx | apply mS)); done) | ((repeat (refine List.forall_mem_cons.2 ⟨(by (repeat (first | assumption | (with_reducible exact mZ) | apply mS)); first | done | fail), ?_⟩)); intro x hx; first | (cases hx; done) | ((repeat (first | exact hx | apply mS)); done))) (stab_pure (by rfl) (fun w => (by go_simp; try with_reducible rfl))) ?_; simp only [Act.put, List.setIfInBounds_toArray, List.set_cons_zero, List.set_cons_succ]; refine RS_done (by decide +kernel) (.inl (by first | (intro x hx; (repeat (first | exact hx | apply mS)); done) | ((repeat (refine List.forall_mem_cons.2 ⟨(by (repeat (first | assumption | (with_reducible exact mZ) | apply mS)); first | done | fail), ?_⟩)); intro x hx; first | (cases hx; done) | ((repeat (first | exact hx | apply mS)); done)))) (fun w hM => ?_))
          go_wp2_with (first | (first | ((with_reducible refine at_load' ?_); (refine BigFrame.wpList_want (by rfl) fun K hK => ws_load1 hM rfl rfl (by (repeat (first | assumption | (with_reducible exact mZ) | apply mS)); first | done | fail) (by exact HK33.out) (by decide +kernel) (hK _ _ ?_); clear hK K)) | fail))
          go_ret
          exact ⟨tx, HTXL.out, rfl, hM.sel (by repeat (first | (with_reducible exact Sel.refl) | (with_reducible exact Take.head) | (with_reducible apply Take.tail) | (with_reducible apply Sel.cons) | (with_reducible apply Sel.drop)))⟩
        · have HEQ : Hid (decide (id = sid) = false) := by show _ = _; simpa using heq
          clear heq
          (refine region_RS ([cellsE g4 90 (rwC (some adA) n c o g), cellsE g8 76 (ocs (kk, id, tx)).toArray, rowE 3 (some adA) n (usvs l)]) [] (by kernel_rfl) hM ?_; clear hM; change RS _ _ _ _ _ _ 16 (Array.replicate 16 false) _ _; refine RS_take (i := 0) rfl (by decide +kernel) (fun _ _ _ h => h) (by first | (intro x hx; (repeat (first | exact hx | apply mS)); done) | ((repeat (refine List.forall_mem_cons.2 ⟨(by (repeat (first | assumption | (with_reducible exact mZ) | apply mS)); first | done | fail), ?_⟩)); intro x hx; first | (cases hx; done) | ((repeat (first | exact hx | apply mS)); done))) (stab_pure (by rfl) (fun w => (by go_simp; try with_reducible rfl))) ?_; simp only [Act.put, List.setIfInBounds_toArray, List.set_cons_zero, List.set_cons_succ]; refine RS_take (i := 1) rfl (by decide +kernel) (fun _ _ _ h => h) (by first | (intro x hx; (repeat (first | exact hx | apply mS)); done) | ((repeat (refine List.forall_mem_cons.2 ⟨(by (repeat (first | assumption | (with_reducible exact mZ) | apply mS)); first | done | fail), ?_⟩)); intro x hx; first | (cases hx; done) | ((repeat (first | exact hx | apply mS)); done))) (stab_read (by rfl) (fun L w hL hM => (ex_load1 (v := .slice (some adA) n c) hM rfl rfl (hL _ (by (repeat (first | assumption | (with_reducible exact mZ) | apply mS)); first | done | fail)) rfl (by decide +kernel)))) ?_; simp only [Act.put, List.setIfInBounds_toArray, List.set_cons_zero, List.set_cons_succ]; refine RS_take (i := 2) rfl (by decide +kernel) (fun _ _ _ h => h) (by first | (intro x hx; (repeat (first | exact hx | apply mS)); done) | ((repeat (refine List.forall_mem_cons.2 ⟨(by (repeat (first | assumption | (with_reducible exact mZ) | apply mS)); first | done | fail), ?_⟩)); intro x hx; first | (cases hx; done) | ((repeat (first | exact hx | apply mS)); done))) (stab_pure (by rfl) (fun w => (by go_simp; try with_reducible rfl))) ?_; simp only [Act.put, List.setIfInBounds_toArray, List.set_cons_zero, List.set_cons_succ]; refine RS_take (i := 3) rfl (by decide +kernel) (fun _ _ _ h => h) (by first | (intro x hx; (repeat (first | exact hx | apply mS)); done) | ((repeat (refine List.forall_mem_cons.2 ⟨(by (repeat (first | assumption | (with_reducible exact mZ) | apply mS)); first | done | fail), ?_⟩)); intro x hx; first | (cases hx; done) | ((repeat (first | exact hx | apply mS)); done))) (stab_read (by rfl) (fun L w hL hM => (ex_gt rfl rfl rfl (b := true) (by simp; omega)))) ?_; simp only [Act.put, List.setIfInBounds_toArray, List.set_cons_zero, List.set_cons_succ]; refine RS_take (i := 4) rfl (by decide +kernel) (fun _ _ _ h => h) (by first | (intro x hx; (repeat (first | exact hx | apply mS)); done) | ((repeat (refine List.forall_mem_cons.2 ⟨(by (repeat (first | assumption | (with_reducible exact mZ) | apply mS)); first | done | fail), ?_⟩)); intro x hx; first | (cases hx; done) | ((repeat (first | exact hx | apply mS)); done))) (stab_pure (by rfl) (fun w => (by go_simp; try with_reducible rfl))) ?_; simp only [Act.put, List.setIfInBounds_toArray, List.set_cons_zero, List.set_cons_succ]; refine RS_take (i := 5) rfl (by decide +kernel) (fun _ _ _ h => h) (by first | (intro x hx; (repeat (first | exact hx | apply mS)); done) | ((repeat (refine List.forall_mem_cons.2 ⟨(by (repeat (first | assumption | (with_reducible exact mZ) | apply mS)); first | done | fail), ?_⟩)); intro x hx; first | (cases hx; done) | ((repeat (first | exact hx | apply mS)); done))) (stab_pure (by rfl) (fun w => (by go_simp; try with_reducible rfl))) ?_; simp only [Act.put, List.setIfInBounds_toArray, List.set_cons_zero, List.set_cons_succ]; refine RS_take (i := 6) rfl (by decide +kernel) (fun _ _ _ h => h) (by first | (intro x hx; (repeat (first | exact hx | apply mS)); done) | ((repeat (refine List.forall_mem_cons.2 ⟨(by (repeat (first | assumption | (with_reducible exact mZ) | apply mS)); first | done | fail), ?_⟩)); intro x hx; first | (cases hx; done) | ((repeat (first | exact hx | apply mS)); done))) (stab_read (by rfl) (fun L w hL hM => (ex_load_mid hM rfl rfl (hL _ (by (repeat (first | assumption | (with_reducible exact mZ) | apply mS)); first | done | fail)) (bvs id) (ocs_id (kk, id, tx)) (n := 32) (by rw [bvs_len]; exact HID.out) (by decide +kernel)))) ?_; simp only [Act.put, List.setIfInBounds_toArray, List.set_cons_zero, List.set_cons_succ]; refine RS_take (i := 7) rfl (by decide +kernel) (fun _ _ _ h => h) (by first | (intro x hx; (repeat (first | exact hx | apply mS)); done) | ((repeat (refine List.forall_mem_cons.2 ⟨(by (repeat (first | assumption | (with_reducible exact mZ) | apply mS)); first | done | fail), ?_⟩)); intro x hx; first | (cases hx; done) | ((repeat (first | exact hx | apply mS)); done))) (stab_call (by rfl) (fun w => (by go_simp; try with_reducible rfl)) (fun L w hL hM => (HOB.out _ w hM))) ?_; simp only [Act.put, List.setIfInBounds_toArray, List.set_cons_zero, List.set_cons_succ]; refine RS_take (i := 8) rfl (by decide +kernel) (fun _ _ _ h => h) (by first | (intro x hx; (repeat (first | exact hx | apply mS)); done) | ((repeat (refine List.forall_mem_cons.2 ⟨(by (repeat (first | assumption | (with_reducible exact mZ) | apply mS)); first | done | fail), ?_⟩)); intro x hx; first | (cases hx; done) | ((repeat (first | exact hx | apply mS)); done))) (stab_pure (by rfl) (fun w => (by go_simp; try with_reducible rfl))) ?_; simp only [Act.put, List.setIfInBounds_toArray, List.set_cons_zero, List.set_cons_succ]; refine RS_take (i := 9) rfl (by decide +kernel) (fun _ _ _ h => h) (by first | (intro x hx; (repeat (first | exact hx | apply mS)); done) | ((repeat (refine List.forall_mem_cons.2 ⟨(by (repeat (first | assumption | (with_reducible exact mZ) | apply mS)); first | done | fail), ?_⟩)); intro x hx; first | (cases hx; done) | ((repeat (first | exact hx | apply mS)); done))) (stab_read (by rfl) (fun L w hL hM => (ex_load1 (v := .slice (some adA) n c) hM rfl rfl (hL _ (by (repeat (first | assumption | (with_reducible exact mZ) | apply mS)); first | done | fail)) rfl (by decide +kernel)))) ?_; simp only [Act.put, List.setIfInBounds_toArray, List.set_cons_zero, List.set_cons_succ]; refine RS_take (i := 10) rfl (by decide +kernel) (fun _ _ _ h => h) (by first | (intro x hx; (repeat (first | exact hx | apply mS)); done) | ((repeat (refine List.forall_mem_cons.2 ⟨(by (repeat (first | assumption | (with_reducible exact mZ) | apply mS)); first | done | fail), ?_⟩)); intro x hx; first | (cases hx; done) | ((repeat (first | exact hx | apply mS)); done))) (stab_pure (by rfl) (fun w => (by go_simp; try with_reducible rfl))) ?_; simp only [Act.put, List.setIfInBounds_toArray, List.set_cons_zero, List.set_cons_succ]; refine RS_take (i := 11) rfl (by decide +kernel) (fun _ _ _ h => h) (by first | (intro x hx; (repeat (first | exact hx | apply mS)); done) | ((repeat (refine List.forall_mem_cons.2 ⟨(by (repeat (first | assumption | (with_reducible exact mZ) | apply mS)); first | done | fail), ?_⟩)); intro x hx; first | (cases hx; done) | ((repeat (first | exact hx | apply mS)); done))) (stab_pure (by rfl) (fun w => (by go_simp; try with_reducible rfl))) ?_; simp only [Act.put, List.setIfInBounds_toArray, List.set_cons_zero, List.set_cons_succ]; refine RS_take (i := 12) rfl (by decide +kernel) (fun _ _ _ h => h) (by first | (intro x hx; (repeat (first | exact hx | apply mS)); done) | ((repeat (refine List.forall_mem_cons.2 ⟨(by (repeat (first | assumption | (with_reducible exact mZ) | apply mS)); first | done | fail), ?_⟩)); intro x hx; first | (cases hx; done) | ((repeat (first | exact hx | apply mS)); done))) (stab_pure (by rfl) (fun w => (by go_simp; try with_reducible rfl))) ?_; simp only [Act.put, List.setIfInBounds_toArray, List.set_cons_zero, List.set_cons_succ]; refine RS_take (i := 13) rfl (by decide +kernel) (fun _ _ _ h => h) (by first | (intro x hx; (repeat (first | exact hx | apply mS)); done) | ((repeat (refine List.forall_mem_cons.2 ⟨(by (repeat (first | assumption | (with_reducible exact mZ) | apply mS)); first | done | fail), ?_⟩)); intro x hx; first | (cases hx; done) | ((repeat (first | exact hx | apply mS)); done))) (stab_read (by rfl) (fun L w hL hM => (ex_rowload (k := 0) rfl (by rfl) ((hM.row (hL (rowE 3 (some adA) n (usvs l)) (by (repeat (first | assumption | (with_reducible exact mZ) | apply mS)); first | done | fail))).flat (by omega)) HS0.out (by decide +kernel)))) ?_; simp only [Act.put, List.setIfInBounds_toArray, List.set_cons_zero, List.set_cons_succ]; refine RS_take (i := 14) rfl (by decide +kernel) (fun _ _ _ h => h) (by first | (intro x hx; (repeat (first | exact hx | apply mS)); done) | ((repeat (refine List.forall_mem_cons.2 ⟨(by (repeat (first | assumption | (with_reducible exact mZ) | apply mS)); first | done | fail), ?_⟩)); intro x hx; first | (cases hx; done) | ((repeat (first | exact hx | apply mS)); done))) (stab_read (by rfl) (fun L w hL hM => (ex_eqs rfl rfl rfl (b := false) HEQ.out))) ?_; simp only [Act.put, List.setIfInBounds_toArray, List.set_cons_zero, List.set_cons_succ]; refine RS_take (i := 15) rfl (by decide +kernel) (fun _ _ _ h => h) (by first | (intro x hx; (repeat (first | exact hx | apply mS)); done) | ((repeat (refine List.forall_mem_cons.2 ⟨(by (repeat (first | assumption | (with_reducible exact mZ) | apply mS)); first | done | fail), ?_⟩)); intro x hx; first | (cases hx; done) | ((repeat (first | exact hx | apply mS)); done))) (stab_pure (by rfl) (fun w => (by go_simp; try with_reducible rfl))) ?_; simp only [Act.put, List.setIfInBounds_toArray, List.set_cons_zero, List.set_cons_succ]; refine RS_done (by decide +kernel) (.inl (by first | (intro x hx; (repeat (first | exact hx | apply mS)); done) | ((repeat (refine List.forall_mem_cons.2 ⟨(by (repeat (first | assumption | (with_reducible exact mZ) | apply mS)); first | done | fail), ?_⟩)); intro x hx; first | (cases hx; done) | ((repeat (first | exact hx | apply mS)); done)))) (fun w hM => ?_))
          go_wp2_with fail
          go_roundw
          case rel => exact ⟨k + 1, by omega, by go_num, hM.sel (by repeat (first | (with_reducible exact Sel.refl) | (with_reducible exact Take.head) | (with_reducible apply Take.tail) | (with_reducible apply Sel.cons) | (with_reducible apply Sel.drop)))⟩
          case measure => simp [intOf]; omega
    · obtain rfl : k = m := by omega
      go_wp2_with (first | ((with_reducible refine at_load' ?_); refine BigFrame.wpList_want (by rfl) fun K hK => ws_rowload (k := at_ * 34 + 33) rfl (by exact congrArg (fun z => Value.pointer (some z)) (add_mk ad (at_ * 34) 33 (by omega))) ((hM.flat (A := some ad) (n := k) (size := 34) (xs := ovs os) (by (repeat (first | assumption | (with_reducible exact mZ) | apply mS)); first | done | fail) (by omega)).row List.mem_cons_self) HTA.out (by decide +kernel) (hK _ _ ?_); clear hK K))
      go_ret
      exact ⟨ta, HTL.out, rfl, hM.sel (by repeat (first | (with_reducible exact Sel.refl) | (with_reducible exact Take.head) | (with_reducible apply Take.tail) | (with_reducible apply Sel.cons) | (with_reducible apply Sel.drop)))⟩
end Go.Proofs.Ytlhedbjjlomniaa
set_option linter.unusedSimpArgs false
set_option linter.unusedVariables false
namespace Go.Proofs.Ytlhedbjjlomniaa
open Go.RowKit
attribute [local go_sem] extract_mid extract_drop bget bsize wrap64_u8 i64_u8 u64_u8 bappend
def rowC (l : List (List UInt8)) (i : Nat) : List (List UInt8) := (l.take 12).map fun x => cutP x 299 ++ [UInt8.ofNat (97 + i)]
def manyC (l : List (List UInt8)) (i : Nat) : List (List UInt8) := (List.range i).flatMap (rowC l)
def timesC (t : Int) : Nat := (if 12 < t then 12 else if t < 0 then 0 else t).toNat
def chunkC (l : List (List UInt8)) (t : Int) : List (List UInt8) := manyC l (timesC t)
theorem timesC_le (t : Int) : timesC t ≤ 12 := by unfold timesC; split <;> (try split) <;> omega
theorem manyC_succ (l : List (List UInt8)) (i : Nat) : manyC l (i + 1) = manyC l i ++ rowC l i := by
  unfold manyC
  rw [List.range_succ, List.flatMap_append]
  simp
theorem rowC_len (l : List (List UInt8)) (i : Nat) : (rowC l i).length ≤ 12 := by unfold rowC; rw [List.length_map, List.length_take]; omega
theorem manyC_len (l : List (List UInt8)) : ∀ i, (manyC l i).length ≤ 12 * i
  | 0 => by simp [manyC]
  | i + 1 => by rw [manyC_succ, List.length_append]; have := manyC_len l i; have := rowC_len l i; omega
theorem chunkC_len (l : List (List UInt8)) (t : Int) : (chunkC l t).length ≤ 144 := by
  have := manyC_len l (timesC t)
  have := timesC_le t
  unfold chunkC
  omega
theorem chunkC_le (l : List (List UInt8)) (t : Int) : ∀ x ∈ chunkC l t, x.length ≤ 300 := by
  intro x hx
  unfold chunkC manyC at hx
  obtain ⟨i, _, hx⟩ := List.mem_flatMap.1 hx
  obtain ⟨y, _, rfl⟩ := List.mem_map.1 hx
  have := cutP_len y 299 (by omega)
  rw [List.length_append]
  simp only [List.length_cons, List.length_nil]
  omega
theorem rowC_snoc (l : List (List UInt8)) (i : Nat) {k : Nat} {x : List UInt8} (hk : k < 12) (hx : l[k]? = some x) : (rowC l i).take (k + 1) = (rowC l i).take k ++ [cutP x 299 ++ [UInt8.ofNat (97 + i)]] := by
  refine take_snoc_at _ _ _ ?_
  unfold rowC
  rw [List.getElem?_map, List.getElem?_take, if_pos hk, hx]
  rfl
theorem rowC_full (l : List (List UInt8)) (i : Nat) {k : Nat} (h : l.length ≤ k ∨ 12 ≤ k) : (rowC l i).take k = rowC l i := by
  refine List.take_of_length_le ?_
  unfold rowC
  rw [List.length_map, List.length_take]
  omega
theorem rune_sign (i : Nat) (h : i < 12) : Utf8.encode (97 + (i : Int)) = ⟨#[UInt8.ofNat (97 + i)]⟩ := by
  rcases (by omega : i = 0 ∨ i = 1 ∨ i = 2 ∨ i = 3 ∨ i = 4 ∨ i = 5 ∨ i = 6 ∨ i = 7 ∨ i = 8 ∨ i = 9 ∨ i = 10 ∨ i = 11) with rfl | rfl | rfl | rfl | rfl | rfl | rfl | rfl | rfl | rfl | rfl | rfl <;> rfl
/-- A code point's bytes. -/
structure Sgn (n : Int) (l : List UInt8) : Prop where
  eq : Utf8.encode n = ⟨l.toArray⟩
theorem ex_i32 {P : Program} {w : World} {o : Oper} {a : Act} {s d : TypeId} {x : Operand} (ho : o.op = .convert s d x) (hs : P.underlying s = some (.int .i64)) (hd : P.underlying d = some (.int .i32)) {n : Int} (hx : a.eval x = .int .i64 n) (hn : 0 ≤ n ∧ n ≤ 1000000) :
    (execOp a.eval o).run P w = .ok (.value (.int .i32 n)) w := by
  have hw : IntKind.i32.wrap n = n := IntWalk.i32_in _ (by omega)
  unfold execOp
  simp only [ho, hx]
  simp [go_sem, convert, run_underlying hs, run_underlying hd, hw]
theorem ex_sign {P : Program} {w : World} {o : Oper} {a : Act} {s d : TypeId} {x : Operand} (ho : o.op = .convert s d x) (hs : P.underlying s = some (.int .i32)) (hd : P.underlying d = some .string) {n : Int} (hx : a.eval x = .int .i32 n) {l : List UInt8} (hl : Sgn n l) :
    (execOp a.eval o).run P w = .ok (.value (.string ⟨l.toArray⟩)) w := by
  unfold execOp
  simp only [ho, hx]
  simp [go_sem, convert, run_underlying hs, run_underlying hd, Conv.intToString, hl.eq]
set_option maxRecDepth 100000 in
set_option maxHeartbeats 8000000 in
theorem chunks_star {F : List SProp} (l : List (List UInt8)) (A : Option Addr) (n c : Nat) (t : Int) (w : World) (hM : Star F w) (hF : rowE 1 A n (svs l) ∈ F) (hx : ∀ x ∈ l, x.length ≤ 9223372036854775807) :
    Calls Try.prog 33 #[.slice A n c, .int .i64 t] w fun r w' => ∃ B cb, r = .returned (.slice B (chunkC l t).length cb) ∧ Star (rowE 1 B (chunkC l t).length (svs (chunkC l t)) :: F) w' := by
  have hlen := svs_row (hM.row hF)
  have HL := Lib.hid hlen
  obtain ⟨t1, ht1⟩ : ∃ t1 : Int, (if 12 < t then 12 else t) = t1 := ⟨_, rfl⟩
  have ht2 : (if 0 < t1 then t1 else 0) = (timesC t : Int) := by subst ht1; unfold timesC; repeat' split
                                                                 all_goals omega
  have hT := timesC_le t
  have HRES : Hid (manyC l (timesC t) = chunkC l t) := rfl
  generalize timesC t = T at hT HRES ht2
  clear hlen
  go_enter Try.func33, Try.ntmps33
  go_wp2_with (first | (first | ((with_reducible refine at_slice' ?_); (have hM0 := hM; clear hM; refine BigFrame.wpList_want (by rfl) fun K hK => ws_slice_own hM0 (n := 0) rfl 9 1 (.string ByteArray.empty) [] Try.underlying61 (by kernel_rfl) rfl (by simp [Value.cells, iv, sv, bv]) (by rfl) (by decide) (by decide) (cs := svs []) (by rfl) (fun g8 w hM => hK _ _ ?_); clear hM0 hK K)) | fail))
  go_loopw [5, 12] (fun O i wr => ∃ (j q : Nat) (B : Option Addr) (cb : Nat), j ≤ T ∧ i = .int .i64 j ∧ O = .slice B q cb ∧ Hid (q = (manyC l j).length) ∧ q ≤ 12 * j ∧ Star (ownE 9 1 B q cb (svs (manyC l j)) :: F) wr) (fun _ i _ => T - (intOf i).toNat)
  case atStart => exact ⟨0, 0, _, 0, by omega, rfl, rfl, rfl, by omega, (hM.sel (by repeat (first | (with_reducible exact Sel.refl) | (with_reducible exact Take.head) | (with_reducible apply Take.tail) | (with_reducible apply Sel.cons) | (with_reducible apply Sel.drop))) : Star (ownE 9 1 (some ⟨g8, 0, none⟩) 0 0 (svs []) :: F) _)⟩
  case round =>
    clear hM
    obtain ⟨j, q, B, cb, hj, rfl, rfl, HQ, hq, hM⟩ := hrel
    by_cases hlt : j < T
    · have hsg := rune_sign j (by omega)
      have had : IntKind.i64.wrap (97 + (j : Int)) = 97 + (j : Int) := IntWalk.i64_in _ (by omega)
      obtain ⟨z, hz⟩ : ∃ z : Int, 97 + (j : Int) = z := ⟨_, rfl⟩
      have hz0 : 0 ≤ z ∧ z ≤ 1000 := by omega
      obtain ⟨sg, hs⟩ : ∃ s : List UInt8, [UInt8.ofNat (97 + j)] = s := ⟨_, rfl⟩
      have hs1 : sg.length ≤ 1 := by rw [← hs]; simp
      rw [hz, show (⟨#[UInt8.ofNat (97 + j)]⟩ : ByteArray) = ⟨sg.toArray⟩ by rw [← hs]] at hsg
      rw [hz] at had
      have HAD : Hid (IntKind.i64.wrap (97 + (j : Int)) = z) := by show _ = _; rw [hz]; exact had
      have HSG : Hid (Sgn z sg) := ⟨hsg⟩
      have HS := Lib.hid hs
      clear hsg had hz hs
      go_wp2_with fail
      obtain ⟨wq, rfl⟩ : ∃ wq : World, wq = wr := ⟨_, rfl⟩
      go_loopw [5, 7] (fun O i wx => ∃ (k : Nat) (B : Option Addr) (cb : Nat), k ≤ n ∧ k ≤ 12 ∧ i = .int .i64 k ∧ O = .slice B (q + k) cb ∧ Star (ownE 9 1 B (q + k) cb (svs (manyC l j ++ (rowC l j).take k)) :: F) wx) (fun _ i _ => n - (intOf i).toNat)
      case atStart => exact ⟨0, B, cb, by omega, by omega, rfl, rfl, by rw [List.take_zero, List.append_nil]; exact hM⟩
      case round =>
        clear hM
        obtain ⟨k, B, cb, hkn, hk12, rfl, rfl, hM⟩ := hrel
        by_cases hlk : k < n ∧ k < 12
        · obtain ⟨h1, h2⟩ := hlk
          obtain ⟨ad, d, rfl, hc, hg, ht⟩ := hM.elemS (A := A) (n := n) (l := l) (List.mem_cons_of_mem _ hF) h1
          have HC := Lib.hid (cut_any d 299 (by omega))
          have hcl := cutP_len d 299 (by omega)
          have HSN : Hid (svs (manyC l j ++ (rowC l j).take (k + 1)) = svs (manyC l j ++ (rowC l j).take k) ++ svs [cutP d 299 ++ sg]) := by show _ = _; rw [rowC_snoc l j h2 hg, ← HS.out, ← List.append_assoc]; simp [svs]
          generalize cutP d 299 = y at HC hcl HSN
          have hsl : ¬ (9223372036854775807 < y.length + sg.length) := by omega
          clear ht hg hx ht1 ht2
          go_wp2_with (first | (first | ((with_reducible refine at_load' ?_); (refine BigFrame.wpList_want (by rfl) fun K hK => ws_rowload rfl rfl (by first | (apply Star.row hM; (repeat (first | assumption | (with_reducible exact mZ) | apply mS)); done) | (apply Star.own hM; (repeat (first | assumption | (with_reducible exact mZ) | apply mS)); done) | (apply Star.arr hM; (focus ((repeat (first | assumption | (with_reducible exact mZ) | apply mS)); done)); assumption)) (by assumption) (by kernel_rfl) (hK _ _ ?_); clear hK K)) | fail) | (go_at_call 22; have hM0 := hM; clear hM; (first | (with_reducible refine (starq (HC.out _) hM0).mono ?_) | fail); clear hM0; rintro _ w ⟨rfl, hM⟩) | (refine BigFrame.wpList_want (by rfl) fun K hK => ws_of_ex (ex_add rfl rfl rfl HAD.out) (hK _ _ ?_); clear hK K) | (refine BigFrame.wpList_want (by rfl) fun K hK => ws_of_ex (ex_i32 rfl Try.underlying3 Try.underlying21 rfl (by omega)) (hK _ _ ?_); clear hK K) | (refine BigFrame.wpList_want (by rfl) fun K hK => ws_of_ex (ex_sign (l := sg) rfl Try.underlying21 Try.underlying9 rfl HSG.out) (hK _ _ ?_); clear hK K) | (first | ((with_reducible refine at_slice' ?_); (have hM0 := hM; clear hM; refine BigFrame.wpList_want (by rfl) fun K hK => ws_slice_row hM0 (n := 1) rfl 9 1 (.string ByteArray.empty) [sv (y ++ sg)] Try.underlying61 (by kernel_rfl) rfl (by simp [Value.cells, iv, sv, bv]) (by rfl) (by decide) (cs := svs [y ++ sg]) (by rfl) (fun g36 w hM => hK _ _ ?_); clear hM0 hK K)) | fail) | (first | ((with_reducible refine at_call' ?_); (have hM0 := hM; clear hM; refine BigFrame.wpList_want (by rfl) fun K hK => ws_append hM0 rfl rfl rfl 9 ((.string ByteArray.empty)) 1 16 Try.underlying61 (by kernel_rfl) (by rfl) (by decide) (by (repeat (first | (with_reducible exact Take.head) | apply Take.tail)); first | done | fail) (by first | (apply Star.row hM0; (repeat (first | assumption | (with_reducible exact mZ) | apply mS)); done) | (apply Star.own hM0; (repeat (first | assumption | (with_reducible exact mZ) | apply mS)); done) | (apply Star.arr hM0; (focus ((repeat (first | assumption | (with_reducible exact mZ) | apply mS)); done)); assumption)) (svs_one [y ++ sg]) ((by omega)) (fun A1 c1 w hM hnil => hK _ _ ?_); clear hM0 hK K)) | fail))
          go_roundw
          case rel => exact ⟨k + 1, A1, c1, by omega, by omega, by go_num, rfl, by rw [show q + (k + 1) = q + k + 1 from rfl, HSN.out]; exact hM.sel (by repeat (first | (with_reducible exact Sel.refl) | (with_reducible exact Take.head) | (with_reducible apply Take.tail) | (with_reducible apply Sel.cons) | (with_reducible apply Sel.drop)))⟩
          case measure => simp [intOf]; omega
        · have hfull : (rowC l j).take k = rowC l j := rowC_full l j (by rw [HL.out]; omega)
          rw [hfull, ← manyC_succ] at hM
          have HQ2 : Hid (q + k = (manyC l (j + 1)).length) := by
            show _ = _
            rw [manyC_succ, List.length_append, ← HQ.out, ← hfull, List.length_take]
            unfold rowC
            rw [List.length_map, List.length_take]
            have := HL.out
            omega
          clear hx ht1 ht2 hfull
          rcases Nat.lt_or_ge k n with h1 | h1
          · have h2 : k = 12 := by omega
            subst h2
            go_wp2_with fail
            go_roundw
            case rel => exact ⟨j + 1, q + 12, B, cb, by omega, by go_num, rfl, HQ2.out, by omega, hM.sel (by repeat (first | (with_reducible exact Sel.refl) | (with_reducible exact Take.head) | (with_reducible apply Take.tail) | (with_reducible apply Sel.cons) | (with_reducible apply Sel.drop)))⟩
            case measure => simp [intOf]; omega
          · have h2 : ¬ ((k : Int) < (n : Int)) := by omega
            go_wp2_with fail
            go_roundw
            case rel => exact ⟨j + 1, q + k, B, cb, by omega, by go_num, rfl, HQ2.out, by omega, hM.sel (by repeat (first | (with_reducible exact Sel.refl) | (with_reducible exact Take.head) | (with_reducible apply Take.tail) | (with_reducible apply Sel.cons) | (with_reducible apply Sel.drop)))⟩
            case measure => simp [intOf]; omega
    · obtain rfl : j = T := by omega
      rw [HRES.out] at hM
      have HQ2 : Hid (q = (chunkC l t).length) := by show _ = _; rw [← HRES.out]; exact HQ.out
      clear hx ht1 ht2 HQ
      go_wp2_with fail
      go_ret
      have e := HQ2.out
      rw [← e]
      exact ⟨_, _, rfl, hM.freeze.sel (by repeat (first | (with_reducible exact Sel.refl) | (with_reducible exact Take.head) | (with_reducible apply Take.tail) | (with_reducible apply Sel.cons) | (with_reducible apply Sel.drop)))⟩
end Go.Proofs.Ytlhedbjjlomniaa
set_option linter.unusedSimpArgs false
set_option linter.unusedVariables false
namespace Go.Proofs.Ytlhedbjjlomniaa
open Go.RowKit
attribute [local go_sem] extract_mid extract_drop bget bsize wrap64_u8 i64_u8 u64_u8 bappend
theorem climb_root : ∀ (f k : Nat) (l : List Pt) (o : List Ob), Lvl k l o → f + k = 5 → (climb f k l o).1.length = 1 ∧ sumP (climb f k l o).1 = sumP l ∧ o.length ≤ (climb f k l o).2.length
  | 0, k, l, o, h, hk => by have := h.k4; omega
  | f + 1, k, l, o, h, hk => by
    unfold climb
    split
    · rename_i hg
      have h2 := climb_root f (k + 1) _ _ (h.up (by rcases hg with h | h; exact .inl (by omega); exact .inr h)) (by omega)
      have e : (((k + 1 : Nat)) : Int) = (k : Int) + 1 := by omega
      rw [e, upP_sum, List.length_append] at h2
      exact ⟨h2.1, h2.2.1, by omega⟩
    · rename_i hg
      have h1 := h.one
      have h2 : ¬ (1 < l.length) := fun h => hg (.inr h)
      exact ⟨by simp only; omega, rfl, Nat.le_refl _⟩
theorem build_root (cs : List (List UInt8)) (hl : cs.length ≤ 200) (h : (buildB cs).2.2 = 0) : 1 ≤ (buildB cs).1.2 ∧ (buildB cs).1.2 ≤ 32768 ∧ 1 ≤ (buildB cs).2.1.length := by
  unfold buildB at h ⊢
  split at h
  · cases h
  split at h
  · cases h
  split at h
  · cases h
  · rename_i h1 h2 h3
    rw [if_neg h1, if_neg h2, if_neg h3]
    have hpos := List.length_pos_iff.2 h2
    have hr := climb_root 4 1 (leafP cs) (leafO cs) ⟨by omega, by omega, by rw [leafP_len]; omega, by rw [leafP_len, if_pos rfl]; omega, leafO_32 _, leafP_32 _, leafP_pos _, by omega, by rw [leafO_len]; omega⟩ rfl
    have hs : 1 ≤ sumP (leafP cs) := by
      obtain ⟨d, ds, rfl⟩ := List.exists_cons_of_ne_nil h2
      have h4 : (d :: ds).all okCh = true := by simpa using h1
      have h1 := List.all_eq_true.1 h4 d List.mem_cons_self
      unfold okCh at h1
      simp only [decide_eq_true_eq] at h1
      have h2 := nn_sum (leafP ds) (leafP_pos ds)
      simp only [leafP, List.map_cons, sumP]
      unfold leafP at h2
      omega
    rw [leafO_len] at hr
    obtain ⟨r1, r2, r3⟩ := hr
    simp only at r1 r2 r3 ⊢
    have e : ((1 : Nat) : Int) = 1 := rfl
    rw [e] at r1 r2 r3
    cases hc : (climb 4 1 (leafP cs) (leafO cs)).1 with
    | nil => rw [hc] at r1; cases r1
    | cons p t =>
      rw [hc] at r1 r2
      obtain rfl : t = [] := by cases t with | nil => rfl | cons _ _ => simp at r1
      simp only [sumP] at r2
      simp only [List.headD_cons]
      omega
theorem ex_rem {P : Program} {w : World} {o : Oper} {a : Act} {t ty : TypeId} {x y : Operand} (ho : o.op = .binOp .rem t x y ty) {i j r : Int} (hx : a.eval x = .int .i64 i) (hy : a.eval y = .int .i64 j) (hj : j ≠ 0) (hb : i.tmod j = r) : (execOp a.eval o).run P w = .ok (.value (.int .i64 r)) w := by
  subst hb
  unfold execOp
  simp only [ho, hx, hy]
  simp [go_sem, hj]
set_option maxRecDepth 100000 in
set_option maxHeartbeats 8000000 in
theorem weavePlays_core {F : List SProp} (A : Option Addr) (n c : Nat) (l : List (List UInt8)) (hl : ∀ x ∈ l, x.length ≤ 9223372036854775807) (t : Int) (PA : Option Addr) (pn pc : Nat) (ps : List Int) (hps : ∀ x ∈ ps, -9223372036854775808 ≤ x ∧ x ≤ 9223372036854775807) (hpn : pn ≤ 9223372036854775807) (x : List UInt8) (TX : Txt x) (RX : RTxt x) (w : World) (hM : Star F w) (hF : rowE 1 A n (svs l) ∈ F) (hF2 : rowE 1 PA pn (ivs ps) ∈ F) :
    Calls Try.prog 12 #[.slice A n c, .int .i64 t, .slice PA pn pc, .string ⟨x.toArray⟩] w fun r w' => r = .returned (.bool true) ∧ Star F w' := by
  have HC := Lib.hid (fun (L : List SProp) (w : World) (hM : Star L w) (hx : rowE 1 A n (svs l) ∈ L) => chunks_star l A n c t w hM hx hl)
  have hcl := chunkC_len l t
  have hce := chunkC_le l t
  generalize chunkC l t = C at HC hcl hce
  have HB := Lib.hid (fun (D : Option Addr) (cd : Nat) (L : List SProp) (w : World) (hM : Star L w) (hx : rowE 1 D C.length (svs C) ∈ L) => build_star C D C.length cd (by omega) (fun x h => by have := hce x h; omega) w hM hx)
  have hg := build_good C
  have hcnt := build_count C (by omega)
  have hroot := build_root C (by omega)
  unfold PB at HB
  generalize buildB C = Z at HB hg hcnt hroot
  obtain ⟨⟨ri, rs⟩, os, e⟩ := Z
  simp only at HB hg hcnt hroot
  obtain ⟨q, hq⟩ : ∃ q, os.length = q := ⟨_, rfl⟩
  rw [hq] at HB hcnt hroot
  have HQ := Lib.hid hq
  have HG := Lib.hid hg.1
  have HR32 := Lib.hid hg.2
  have HPSL := Lib.hid hps
  have HTX := Lib.hid TX
  have HRX := Lib.hid RX
  clear hcl hce hl hq TX RX hps
  by_cases he : e = 0
  · subst he
    obtain ⟨hr1, hr2, hq1⟩ := hroot rfl
    have HNW : Hid (∀ (L : List SProp) (w : World), Star L w → Calls Try.prog 40 #[.agg (pcs (ri, rs)).toArray] w fun r w' => ∃ b P, IsW b ⟨[((ri, rs), -1)], [], 0⟩ P ∧ r = .returned (.pointer (some ⟨b, 0, none⟩)) ∧ Star (P :: L) w') := fun L w hM => (wnew_w ri hg.2 rs w hM).mono fun _ _ ⟨b, g, e, h⟩ => ⟨b, _, .live (some ⟨g, 0, none⟩) 1 none none 0 (.inl rfl) headA_none (.inr rfl), e, (((h.niltail 5 1).take3 (.tail .head) (.tail .head) .head).join3 rfl rfl rfl)⟩
    have HPT := Lib.hid (fun (L : List SProp) (w : World) (hM : Star L w) => part10_w ri hg.2 rs w hM)
    have HRN := Lib.hid (fun (L : List SProp) (w : World) (hM : Star L w) => rnew_w ri rs w hM)
    have HW0 : Hid (Wok 1 ⟨[((ri, rs), -1)], [], 0⟩) := ⟨by simp, by simp, by simp, by intro s hs; simp at hs; subst hs; exact ⟨hg.2, hr1, hr2, by simp only; omega, by simp only; omega⟩⟩
    clear hg hroot
    go_enter Try.func12, Try.ntmps12
    go_wp2_with (first | (first | ((with_reducible refine at_alloc' ?_); (have hM0 := hM; clear hM; refine BigFrame.wpList_want (by rfl) fun K hK => ws_alloc hM0 (t := 64) rfl (pcs (z32, 0)).toArray info_pt (fun g10 w hM => hK _ _ ?_); clear hM0 hK K)) | fail) | (first | ((with_reducible refine at_store' ?_); (have hM0 := hM; clear hM; refine BigFrame.wpList_want (by rfl) fun K hK => ws_store hM0 rfl rfl rfl (by (repeat (first | (with_reducible exact Take.head) | apply Take.tail)); first | done | fail) (n := 33) (by exact pcs_sz HR32.out) (by exact pcs_sz z32_32) (by kernel_rfl) (by exact pcs_oneA _) (fun w hM => hK _ _ ?_); clear hM0 hK K)) | fail) | (go_at_call 33; have hM0 := hM; clear hM; (first | (with_reducible refine (HC.out _ _ hM0 (by (repeat (first | assumption | (with_reducible exact mZ) | apply mS)); first | done | fail)).mono ?_) | fail); clear hM0; rintro _ w ⟨B1, cb1, rfl, hM⟩) | (go_at_call 34; have hM0 := hM; clear hM; (first | (with_reducible refine (HB.out _ _ _ _ hM0 (by (repeat (first | assumption | (with_reducible exact mZ) | apply mS)); first | done | fail)).mono ?_) | fail); clear hM0; rintro _ w ⟨U, cu, rfl, hM⟩) | (go_at_call 39; have hM0 := hM; clear hM; (first | (with_reducible refine (awake10 _ hM0).mono ?_) | fail); clear hM0; rintro _ w ⟨rfl, hM⟩) | (first | ((with_reducible refine at_load' ?_); (refine BigFrame.wpList_want (by rfl) fun K hK => ws_load hM rfl rfl (by (repeat (first | assumption | (with_reducible exact mZ) | apply mS)); first | done | fail) (n := 33) (by exact pcs_sz HR32.out) (by decide +kernel) (hK _ _ ?_); clear hK K)) | fail) | (go_at_call 40; have hM0 := hM; clear hM; (first | (with_reducible refine (HNW.out _ _ hM0).mono ?_) | fail); clear hM0; rintro _ w ⟨b, P0, hP0, rfl, hM⟩) | (go_at_call 45; have hM0 := hM; clear hM; (first | (with_reducible refine (HPT.out _ _ hM0).mono ?_) | fail); clear hM0; rintro _ w ⟨rfl, hM⟩) | (go_at_call 44; have hM0 := hM; clear hM; (first | (with_reducible refine (HRN.out _ _ hM0).mono ?_) | fail); clear hM0; rintro _ w ⟨A0, c0, rfl, hc1, hcm1, hM⟩) | (first | ((with_reducible refine at_alloc' ?_); (have hM0 := hM; clear hM; refine BigFrame.wpList_want (by rfl) fun K hK => ws_alloc hM0 (t := 90) rfl (rwC none 0 0 [] 0) info_rw (fun g14 w hM => hK _ _ ?_); clear hM0 hK K)) | fail) | (first | ((with_reducible refine at_store' ?_); (have hM0 := hM; clear hM; refine BigFrame.wpList_want (by rfl) fun K hK => ws_store hM0 rfl rfl rfl (by (repeat (first | (with_reducible exact Take.head) | apply Take.tail)); first | done | fail) (n := 3) (by rfl) (by rfl) (by kernel_rfl) (by simp [Value.oneCell']) (fun w hM => hK _ _ ?_); clear hM0 hK K)) | fail))
    obtain ⟨adU, rfl, _, _⟩ := (hM.row (A := U) (n := q) (xs := ovs os) (by (repeat (first | assumption | (with_reducible exact mZ) | apply mS)); first | done | fail)).2 hq1
    have hq2 : ((q - 1 : Nat) : Int) = (q : Int) - 1 := by omega
    have HFD := Lib.hid (fun (l : List Stp) (A : Option Addr) (c : Nat) (o : List UInt8) (g : Int) (L : List SProp) (w : World) (hM : Star L w) (h1 : rowE 34 (some adU) q (ovs os) ∈ L) (h2 : rowE 3 A l.length (usvs l) ∈ L) => (by have h := find_w (cu := cu) (c := c) (o := o) (g := g) HG.out HQ.out hcnt rfl (q - 1) (by omega) w hM h1 h2; rw [hq2] at h; exact h : Calls Try.prog 46 #[.slice (some adU) q cu, .agg (rwC A l.length c o g), .int .i64 ((q : Int) - 1)] w fun r w' => ∃ tx : List UInt8, tx.length ≤ 1000 ∧ r = .returned (.string ⟨tx.toArray⟩) ∧ Star L w'))
    clear hq2
    go_loopw [16] (fun I wr => ∃ (i : Nat) (W : Wv) (P : SProp) (A1 : Option Addr) (c1 : Nat), i ≤ 60 ∧ I = .int .i64 i ∧ Hid (Wok (i + 1) W) ∧ Hid (IsW b W P) ∧ W.left.length ≤ c1 ∧ c1 ≤ 9223372036854775807 ∧ Star (P :: rowE 3 A1 W.left.length (usvs W.left) :: cellsE g14 90 (rwC A1 W.left.length c1 W.out W.got) :: rowE 34 (some adU) q (ovs os) :: F) wr) (fun I _ => 60 - (intOf I).toNat)
    case atStart => exact ⟨0, ⟨[((ri, rs), -1)], [], 0⟩, P0, A0, c0, by omega, rfl, HW0.out, hP0, hc1, hcm1, (hM.sel (by repeat (first | (with_reducible exact Sel.refl) | (with_reducible exact Take.head) | (with_reducible apply Take.tail) | (with_reducible apply Sel.cons) | (with_reducible apply Sel.drop))) : Star (P0 :: rowE 3 A0 1 (usvs [((ri, rs), -1)]) :: cellsE g14 90 (rwC A0 1 c0 [] 0) :: rowE 34 (some adU) q (ovs os) :: F) _)⟩
    case round =>
      clear hM hP0 hc1 hcm1
      obtain ⟨i, W, P, A1, c1, hi, rfl, HW, HP, hc1, hcm1, hM⟩ := hrel
      by_cases hlt : i < 60
      · by_cases hip : i < pn
        · obtain ⟨adP, p, rfl, hpc, hpg, _⟩ := hM.elemI (A := PA) (n := pn) (l := ps) (List.mem_cons_of_mem _ (List.mem_cons_of_mem _ (List.mem_cons_of_mem _ (List.mem_cons_of_mem _ hF2)))) hip
          have hpok := HPSL.out p (List.mem_of_getElem? hpg)
          have hip2 : (i : Int) < (pn : Int) := by omega
          have hip4 : decide (pn ≤ i) = false := by simp; omega
          have HPC : Hid ((ivs ps)[i]? = some (.int .i64 p)) := hpc
          clear hpg hpc
          by_cases h0 : 0 ≤ p
          · obtain ⟨r, hr⟩ : ∃ r : Int, p.tmod (q : Int) = r := ⟨_, rfl⟩
            have hr0 : 0 ≤ r := by rw [← hr]; exact Int.tmod_nonneg _ h0
            have hrq : r < q := by rw [← hr]; exact Int.tmod_lt_of_pos _ (by omega)
            obtain ⟨j, rfl⟩ : ∃ j : Nat, r = (j : Int) := ⟨r.toNat, by omega⟩
            have hjq : j < q := by omega
            obtain ⟨ob, hob⟩ : ∃ ob, os[j]? = some ob := ⟨_, List.getElem?_eq_getElem (by have := HQ.out; omega)⟩
            obtain ⟨⟨kk, id, tx⟩, rfl⟩ : ∃ x : Ob, ob = x := ⟨_, rfl⟩
            have HTT : Hid ((ovs os)[j * 34 + 33]? = some (.string ⟨tx.toArray⟩)) := obj_tx HG.out hob
            have htx : tx.length ≤ 1000 := by obtain ⟨_, _, _, _, h⟩ := HG.out _ (List.mem_of_getElem? hob); exact h
            have HRM := Lib.hid hr
            have HNZ : Hid ((q : Int) ≠ 0) := by show _ ≠ _; omega
            clear hr hob
            go_wp2_with (first | ((with_reducible refine at_load' ?_); refine BigFrame.wpList_want (by rfl) fun K hK => ws_rowload (k := i) rfl rfl (hM.row (A := some adP) (n := pn) (xs := ivs ps) (by (repeat (first | assumption | (with_reducible exact mZ) | apply mS)); first | done | fail)) HPC.out (by decide +kernel) (hK _ _ ?_); clear hK K) | (refine BigFrame.wpList_want (by rfl) fun K hK => ws_of_ex (ex_rem rfl rfl rfl HNZ.out HRM.out) (hK _ _ ?_); clear hK K) | ((with_reducible refine at_load' ?_); refine BigFrame.wpList_want (by rfl) fun K hK => ws_rowload (k := j * 34 + 33) rfl (by exact congrArg (fun z => Value.pointer (some z)) (add_mk adU (j * 34) 33 (by omega))) ((hM.flat (A := some adU) (n := q) (size := 34) (xs := ovs os) (by (repeat (first | assumption | (with_reducible exact mZ) | apply mS)); first | done | fail) (by omega)).row List.mem_cons_self) HTT.out (by decide +kernel) (hK _ _ ?_); clear hK K) | (go_at_call 41; have hM0 := hM; clear hM; (first | (with_reducible refine (give_any (txt_small (by omega)) HW.out (by omega) HP.out _ (hM0.take (x := P) (by (repeat (first | (with_reducible exact Take.head) | apply Take.tail)); first | done | fail))).mono ?_) | fail); clear hM0; rintro _ w ⟨P2, hP2, rfl, hM⟩) | (first | ((with_reducible refine at_load' ?_); (refine BigFrame.wpList_want (by rfl) fun K hK => ws_load hM rfl rfl (by (repeat (first | assumption | (with_reducible exact mZ) | apply mS)); first | done | fail) (n := 3) (by rfl) (by decide +kernel) (hK _ _ ?_); clear hK K)) | fail) | (go_at_call 47; have hM0 := hM; clear hM; (first | (with_reducible refine (rgive_w (rtxt_small (by omega)) HW.out (by omega) hc1 hcm1 _ hM0 (by (repeat (first | assumption | (with_reducible exact mZ) | apply mS)); first | done | fail)).mono ?_) | fail); clear hM0; rintro _ w ⟨A2, c2, rfl, hc2, hcm2, hM⟩) | (first | ((with_reducible refine at_alloc' ?_); (have hM0 := hM; clear hM; refine BigFrame.wpList_want (by rfl) fun K hK => ws_alloc hM0 (t := 90) rfl (rwC none 0 0 [] 0) info_rw (fun g19 w hM => hK _ _ ?_); clear hM0 hK K)) | fail) | (first | ((with_reducible refine at_store' ?_); (have hM0 := hM; clear hM; refine BigFrame.wpList_want (by rfl) fun K hK => ws_store hM0 rfl rfl rfl (by (repeat (first | (with_reducible exact Take.head) | apply Take.tail)); first | done | fail) (n := 3) (by rfl) (by rfl) (by kernel_rfl) (by simp [Value.oneCell']) (fun w hM => hK _ _ ?_); clear hM0 hK K)) | fail) | (go_at_call 48; have hM0 := hM; clear hM; (first | (with_reducible refine (is_any (HW.out.give tx) (by omega) hP2 _ (hM0.take (x := P2) (by (repeat (first | (with_reducible exact Take.head) | apply Take.tail)); first | done | fail)) (by (repeat (first | assumption | (with_reducible exact mZ) | apply mS)); first | done | fail)).mono ?_) | fail); clear hM0; rintro _ w ⟨P3, hP3, rfl, hM⟩))
            go_roundw
            case rel => exact ⟨i + 1, (giveW W tx).1, P3, A2, c2, by omega, by go_num, HW.out.give tx, hP3, hc2, hcm2, hM.sel (by repeat (first | (with_reducible exact Sel.refl) | (with_reducible exact Take.head) | (with_reducible apply Take.tail) | (with_reducible apply Sel.cons) | (with_reducible apply Sel.drop)))⟩
            case measure => simp [intOf]; omega
          · by_cases h1 : p = -1
            · subst h1
              clear h0
              go_wp2_with (first | ((with_reducible refine at_load' ?_); refine BigFrame.wpList_want (by rfl) fun K hK => ws_rowload (k := i) rfl rfl (hM.row (A := some adP) (n := pn) (xs := ivs ps) (by (repeat (first | assumption | (with_reducible exact mZ) | apply mS)); first | done | fail)) HPC.out (by decide +kernel) (hK _ _ ?_); clear hK K) | (go_at_call 41; have hM0 := hM; clear hM; (first | (with_reducible refine (give_any HTX.out HW.out (by omega) HP.out _ (hM0.take (x := P) (by (repeat (first | (with_reducible exact Take.head) | apply Take.tail)); first | done | fail))).mono ?_) | fail); clear hM0; rintro _ w ⟨P2, hP2, rfl, hM⟩) | (first | ((with_reducible refine at_load' ?_); (refine BigFrame.wpList_want (by rfl) fun K hK => ws_load hM rfl rfl (by (repeat (first | assumption | (with_reducible exact mZ) | apply mS)); first | done | fail) (n := 3) (by rfl) (by decide +kernel) (hK _ _ ?_); clear hK K)) | fail) | (go_at_call 47; have hM0 := hM; clear hM; (first | (with_reducible refine (rgive_w HRX.out HW.out (by omega) hc1 hcm1 _ hM0 (by (repeat (first | assumption | (with_reducible exact mZ) | apply mS)); first | done | fail)).mono ?_) | fail); clear hM0; rintro _ w ⟨A2, c2, rfl, hc2, hcm2, hM⟩) | (first | ((with_reducible refine at_alloc' ?_); (have hM0 := hM; clear hM; refine BigFrame.wpList_want (by rfl) fun K hK => ws_alloc hM0 (t := 90) rfl (rwC none 0 0 [] 0) info_rw (fun g19 w hM => hK _ _ ?_); clear hM0 hK K)) | fail) | (first | ((with_reducible refine at_store' ?_); (have hM0 := hM; clear hM; refine BigFrame.wpList_want (by rfl) fun K hK => ws_store hM0 rfl rfl rfl (by (repeat (first | (with_reducible exact Take.head) | apply Take.tail)); first | done | fail) (n := 3) (by rfl) (by rfl) (by kernel_rfl) (by simp [Value.oneCell']) (fun w hM => hK _ _ ?_); clear hM0 hK K)) | fail) | (go_at_call 48; have hM0 := hM; clear hM; (first | (with_reducible refine (is_any (HW.out.give x) (by omega) hP2 _ (hM0.take (x := P2) (by (repeat (first | (with_reducible exact Take.head) | apply Take.tail)); first | done | fail)) (by (repeat (first | assumption | (with_reducible exact mZ) | apply mS)); first | done | fail)).mono ?_) | fail); clear hM0; rintro _ w ⟨P3, hP3, rfl, hM⟩))
              go_roundw
              case rel => exact ⟨i + 1, (giveW W x).1, P3, A2, c2, by omega, by go_num, HW.out.give x, hP3, hc2, hcm2, hM.sel (by repeat (first | (with_reducible exact Sel.refl) | (with_reducible exact Take.head) | (with_reducible apply Take.tail) | (with_reducible apply Sel.cons) | (with_reducible apply Sel.drop)))⟩
              case measure => simp [intOf]; omega
            · have d1 : decide (0 ≤ p) = false := by simp; omega
              have d2 : (p != -1) = true := by simpa using h1
              have d3 : ¬ (p = -1) := h1
              go_wp2_with (first | ((with_reducible refine at_load' ?_); refine BigFrame.wpList_want (by rfl) fun K hK => ws_rowload (k := i) rfl rfl (hM.row (A := some adP) (n := pn) (xs := ivs ps) (by (repeat (first | assumption | (with_reducible exact mZ) | apply mS)); first | done | fail)) HPC.out (by decide +kernel) (hK _ _ ?_); clear hK K) | (go_at_call 46; have hM0 := hM; clear hM; (first | (with_reducible refine (HFD.out _ _ _ _ _ _ _ hM0 (by (repeat (first | assumption | (with_reducible exact mZ) | apply mS)); first | done | fail) (by (repeat (first | assumption | (with_reducible exact mZ) | apply mS)); first | done | fail)).mono ?_) | fail); clear hM0; rintro _ w ⟨tx, htx, rfl, hM⟩) | (go_at_call 41; have hM0 := hM; clear hM; (first | (with_reducible refine (give_any (txt_small (by omega)) HW.out (by omega) HP.out _ (hM0.take (x := P) (by (repeat (first | (with_reducible exact Take.head) | apply Take.tail)); first | done | fail))).mono ?_) | fail); clear hM0; rintro _ w ⟨P2, hP2, rfl, hM⟩) | (first | ((with_reducible refine at_load' ?_); (refine BigFrame.wpList_want (by rfl) fun K hK => ws_load hM rfl rfl (by (repeat (first | assumption | (with_reducible exact mZ) | apply mS)); first | done | fail) (n := 3) (by rfl) (by decide +kernel) (hK _ _ ?_); clear hK K)) | fail) | (go_at_call 47; have hM0 := hM; clear hM; (first | (with_reducible refine (rgive_w (rtxt_small (by omega)) HW.out (by omega) hc1 hcm1 _ hM0 (by (repeat (first | assumption | (with_reducible exact mZ) | apply mS)); first | done | fail)).mono ?_) | fail); clear hM0; rintro _ w ⟨A2, c2, rfl, hc2, hcm2, hM⟩) | (first | ((with_reducible refine at_alloc' ?_); (have hM0 := hM; clear hM; refine BigFrame.wpList_want (by rfl) fun K hK => ws_alloc hM0 (t := 90) rfl (rwC none 0 0 [] 0) info_rw (fun g19 w hM => hK _ _ ?_); clear hM0 hK K)) | fail) | (first | ((with_reducible refine at_store' ?_); (have hM0 := hM; clear hM; refine BigFrame.wpList_want (by rfl) fun K hK => ws_store hM0 rfl rfl rfl (by (repeat (first | (with_reducible exact Take.head) | apply Take.tail)); first | done | fail) (n := 3) (by rfl) (by rfl) (by kernel_rfl) (by simp [Value.oneCell']) (fun w hM => hK _ _ ?_); clear hM0 hK K)) | fail) | (go_at_call 48; have hM0 := hM; clear hM; (first | (with_reducible refine (is_any (HW.out.give tx) (by omega) hP2 _ (hM0.take (x := P2) (by (repeat (first | (with_reducible exact Take.head) | apply Take.tail)); first | done | fail)) (by (repeat (first | assumption | (with_reducible exact mZ) | apply mS)); first | done | fail)).mono ?_) | fail); clear hM0; rintro _ w ⟨P3, hP3, rfl, hM⟩))
              go_roundw
              case rel => exact ⟨i + 1, (giveW W tx).1, P3, A2, c2, by omega, by go_num, HW.out.give tx, hP3, hc2, hcm2, hM.sel (by repeat (first | (with_reducible exact Sel.refl) | (with_reducible exact Take.head) | (with_reducible apply Take.tail) | (with_reducible apply Sel.cons) | (with_reducible apply Sel.drop)))⟩
              case measure => simp [intOf]; omega
        · have hip2 : ¬ ((i : Int) < (pn : Int)) := by omega
          have hip3 : decide ((pn : Int) ≤ (i : Int)) = true := by simp; omega
          go_wp2_with (first | (go_at_call 46; have hM0 := hM; clear hM; (first | (with_reducible refine (HFD.out _ _ _ _ _ _ _ hM0 (by (repeat (first | assumption | (with_reducible exact mZ) | apply mS)); first | done | fail) (by (repeat (first | assumption | (with_reducible exact mZ) | apply mS)); first | done | fail)).mono ?_) | fail); clear hM0; rintro _ w ⟨tx, htx, rfl, hM⟩) | (go_at_call 41; have hM0 := hM; clear hM; (first | (with_reducible refine (give_any (txt_small (by omega)) HW.out (by omega) HP.out _ (hM0.take (x := P) (by (repeat (first | (with_reducible exact Take.head) | apply Take.tail)); first | done | fail))).mono ?_) | fail); clear hM0; rintro _ w ⟨P2, hP2, rfl, hM⟩) | (first | ((with_reducible refine at_load' ?_); (refine BigFrame.wpList_want (by rfl) fun K hK => ws_load hM rfl rfl (by (repeat (first | assumption | (with_reducible exact mZ) | apply mS)); first | done | fail) (n := 3) (by rfl) (by decide +kernel) (hK _ _ ?_); clear hK K)) | fail) | (go_at_call 47; have hM0 := hM; clear hM; (first | (with_reducible refine (rgive_w (rtxt_small (by omega)) HW.out (by omega) hc1 hcm1 _ hM0 (by (repeat (first | assumption | (with_reducible exact mZ) | apply mS)); first | done | fail)).mono ?_) | fail); clear hM0; rintro _ w ⟨A2, c2, rfl, hc2, hcm2, hM⟩) | (first | ((with_reducible refine at_alloc' ?_); (have hM0 := hM; clear hM; refine BigFrame.wpList_want (by rfl) fun K hK => ws_alloc hM0 (t := 90) rfl (rwC none 0 0 [] 0) info_rw (fun g19 w hM => hK _ _ ?_); clear hM0 hK K)) | fail) | (first | ((with_reducible refine at_store' ?_); (have hM0 := hM; clear hM; refine BigFrame.wpList_want (by rfl) fun K hK => ws_store hM0 rfl rfl rfl (by (repeat (first | (with_reducible exact Take.head) | apply Take.tail)); first | done | fail) (n := 3) (by rfl) (by rfl) (by kernel_rfl) (by simp [Value.oneCell']) (fun w hM => hK _ _ ?_); clear hM0 hK K)) | fail) | (go_at_call 48; have hM0 := hM; clear hM; (first | (with_reducible refine (is_any (HW.out.give tx) (by omega) hP2 _ (hM0.take (x := P2) (by (repeat (first | (with_reducible exact Take.head) | apply Take.tail)); first | done | fail)) (by (repeat (first | assumption | (with_reducible exact mZ) | apply mS)); first | done | fail)).mono ?_) | fail); clear hM0; rintro _ w ⟨P3, hP3, rfl, hM⟩))
          go_roundw
          case rel => exact ⟨i + 1, (giveW W tx).1, P3, A2, c2, by omega, by go_num, HW.out.give tx, hP3, hc2, hcm2, hM.sel (by repeat (first | (with_reducible exact Sel.refl) | (with_reducible exact Take.head) | (with_reducible apply Take.tail) | (with_reducible apply Sel.cons) | (with_reducible apply Sel.drop)))⟩
          case measure => simp [intOf]; omega
      · obtain rfl : i = 60 := by omega
        go_wp2_with fail
        go_ret
        exact ⟨rfl, hM.sel (by repeat (first | (with_reducible exact Sel.refl) | (with_reducible exact Take.head) | (with_reducible apply Take.tail) | (with_reducible apply Sel.cons) | (with_reducible apply Sel.drop)))⟩
  · have hc1 : (e == 0) = false := by simpa using he
    have hc2 : (e != 0) = true := by simpa using he
    clear he hg hroot
    go_enter Try.func12, Try.ntmps12
    go_wp2_with (first | (first | ((with_reducible refine at_alloc' ?_); (have hM0 := hM; clear hM; refine BigFrame.wpList_want (by rfl) fun K hK => ws_alloc hM0 (t := 64) rfl (pcs (z32, 0)).toArray info_pt (fun g10 w hM => hK _ _ ?_); clear hM0 hK K)) | fail) | (first | ((with_reducible refine at_store' ?_); (have hM0 := hM; clear hM; refine BigFrame.wpList_want (by rfl) fun K hK => ws_store hM0 rfl rfl rfl (by (repeat (first | (with_reducible exact Take.head) | apply Take.tail)); first | done | fail) (n := 33) (by exact pcs_sz HR32.out) (by exact pcs_sz z32_32) (by kernel_rfl) (by exact pcs_oneA _) (fun w hM => hK _ _ ?_); clear hM0 hK K)) | fail) | (go_at_call 33; have hM0 := hM; clear hM; (first | (with_reducible refine (HC.out _ _ hM0 (by (repeat (first | assumption | (with_reducible exact mZ) | apply mS)); first | done | fail)).mono ?_) | fail); clear hM0; rintro _ w ⟨B1, cb1, rfl, hM⟩) | (go_at_call 34; have hM0 := hM; clear hM; (first | (with_reducible refine (HB.out _ _ _ _ hM0 (by (repeat (first | assumption | (with_reducible exact mZ) | apply mS)); first | done | fail)).mono ?_) | fail); clear hM0; rintro _ w ⟨U, cu, rfl, hM⟩) | (go_at_call 39; have hM0 := hM; clear hM; (first | (with_reducible refine (awake10 _ hM0).mono ?_) | fail); clear hM0; rintro _ w ⟨rfl, hM⟩))
    go_ret
    exact ⟨rfl, hM.sel (by repeat (first | (with_reducible exact Sel.refl) | (with_reducible exact Take.head) | (with_reducible apply Take.tail) | (with_reducible apply Sel.cons) | (with_reducible apply Sel.drop)))⟩
theorem weavePlays_walk {F : List SProp} (A : Option Addr) (n c : Nat) (l : List (List UInt8)) (_y : n ≤ 9223372036854775807) (z : ∀ x ∈ l, x.length ≤ 9223372036854775807) (t : Int) (_t1 : -9223372036854775808 ≤ t) (_t2 : t ≤ 9223372036854775807) (PA : Option Addr) (pn pc : Nat) (ps : List Int) (y2 : pn ≤ 9223372036854775807) (z2 : ∀ x ∈ ps, -9223372036854775808 ≤ x ∧ x ≤ 9223372036854775807) (x : List UInt8) (hx : x.length ≤ 140737488351232) (w : World) (hM : Star F w) (hF : rowE 1 A n (svs l) ∈ F) (hF2 : rowE 1 PA pn (ivs ps) ∈ F) :
    Calls Try.prog 12 #[.slice A n c, .int .i64 t, .slice PA pn pc, .string ⟨x.toArray⟩] w fun r w' => r = .returned (.bool true) ∧ Star F w' :=
  weavePlays_core A n c l z t PA pn pc ps z2 y2 x (txt_big hx) (rtxt_big hx) w hM hF hF2
end Go.Proofs.Ytlhedbjjlomniaa
set_option linter.unusedSimpArgs false
set_option linter.unusedVariables false
namespace Go.Proofs.Ytlhedbjjlomniaa
open Go.RowKit Go.WideShapes Go.ChangeShapes Go.ChangeAt
section
variable {H : Type} {enc : TypeId × Value → H} {P : Program} {w : World} {base : Nat} {spare : Nat → Bool} {held : Bool}
theorem open_strz {r : Reach} {b0 : Nat} {t : TypeId} {v : Value} {d : DataW H} {p : List MemPlace} (ht : P.underlying t = some .string) (hv : Value.okWide P w r b0 t v) (h : DataW.Trod enc P w base spare held t v d p) :
    ∃ l : List UInt8, v = .string ⟨l.toArray⟩ ∧ d = .lit (.string l) := by
  obtain ⟨s, rfl, h1, _, hs⟩ := Go.ChangeMaps.open_string ht hv h
  exact ⟨s.data.toList, by congr 1, h1⟩
theorem sized_str {ts : List TypeId} {ds : List (DataW H)} (h : (DataW.weightsEach P ts ds).all (· ≤ reachBytes) = true) (j : Nat) {t : TypeId} {l : List UInt8} (ht : ts[j]? = some t) (hd : ds[j]? = some (.lit (.string l))) : l.length ≤ 140737488351232 :=
  sized_string h ht hd
end
end Go.Proofs.Ytlhedbjjlomniaa
set_option linter.unusedSimpArgs false
set_option linter.unusedVariables false
namespace Go.Proofs.Ytlhedbjjlomniaa
open Go.RowKit Go.WideShapes Go.ChangeShapes Go.ChangeAt
theorem weavePlays_law (A0 : Option Addr) (n0 c0 : Nat) (l0 : List (List UInt8)) (y0 : n0 ≤ 9223372036854775807) (z0 : ∀ x ∈ l0, x.length ≤ 9223372036854775807) (l1 : Int) (w1 : -9223372036854775808 ≤ l1) (y1 : l1 ≤ 9223372036854775807) (A2 : Option Addr) (n2 c2 : Nat) (l2 : List Int) (y2 : n2 ≤ 9223372036854775807) (z2 : ∀ x ∈ l2, -9223372036854775808 ≤ x ∧ x ≤ 9223372036854775807) (l3 : List UInt8) (w3 : l3.length ≤ 140737488351232) (W : World) (w0 : Rd W 1 A0 n0 (svs l0)) (w2 : Rd W 1 A2 n2 (ivs l2)) :
    Calls Try.prog 12 #[.slice A0 n0 c0, .int .i64 l1, .slice A2 n2 c2, .string ⟨l3.toArray⟩] W fun r w' => r = .returned (.bool true) ∧ Ch [] W w' :=
  (weavePlays_walk A0 n0 c0 l0 y0 z0 l1 w1 y1 A2 n2 c2 l2 y2 z2 l3 w3 W (((Star.start W).of_old (by (repeat (first | assumption | (with_reducible exact mZ) | apply mS)); first | done | fail) w0).of_old (by (repeat (first | assumption | (with_reducible exact mZ) | apply mS)); first | done | fail) w2) (by (repeat (first | assumption | (with_reducible exact mZ) | apply mS)); first | done | fail) (by (repeat (first | assumption | (with_reducible exact mZ) | apply mS)); first | done | fail)).mono fun _ _ ⟨h1, h2⟩ => ⟨h1, h2.old (by (repeat (first | assumption | (with_reducible exact mZ) | apply mS)); first | done | fail)⟩
theorem weavePlays_own : ownKnob Try.prog.godebug = none := by kernel_rfl
set_option maxRecDepth 100000 in
theorem weavePlays_lifted (os : Os) (started : os.Started) (H : Type) (enc : TypeId × Value → H) :
    ReturnsInHanded {} Try.checked os 12 .any (Rows.weavePlaysSpec.pre6 enc Try.prog Try.f12 Rows.weavePlaysRow.domain false) (Rows.weavePlaysSpec.post enc Try.prog Try.f12 false true false false) := by
  refine returnsInHanded_of_change_sized (C := Try.checked) weavePlays_own started (by kernel_rfl) Try.func12
    (ChangeSpec.witness6 (enc := enc) (C := Try.checked) false ⟨#[], #[.slice none 0 0, .int .i64 0, .slice none 0 0, .string ByteArray.empty], []⟩ 8 (by kernel_rfl) (by kernel_rfl) (by kernel_rfl) (by kernel_rfl)) ?_
  intro W base args ds gs before hval0 hW hcnd hsz _
  have hval : ∀ (j : Nat) t v, Try.f12.params[j]? = some t → args[j]? = some v → Value.okWide Try.prog W .any base t v := hval0
  have hW' := hW
  obtain ⟨p, q, hA0, hV, rfl, hfz, hnd⟩ := hW
  have hA : DataW.TrodAll enc Try.prog W 0 (fun _ => true) true Try.f12.params.toList args.toList ds p := hA0
  have hA1 := hA
  rw [Try.params12] at hA hval
  obtain ⟨v0, vs0, d0, ds0, p0, q0, hargs, rfl, rfl, h0, r0⟩ := trodAll_cons hA
  obtain ⟨v1, vs1, d1, ds1, p1, q1, rfl, rfl, rfl, h1, r1⟩ := trodAll_cons r0
  obtain ⟨v2, vs2, d2, ds2, p2, q2, rfl, rfl, rfl, h2, r2⟩ := trodAll_cons r1
  obtain ⟨v3, vs3, d3, ds3, p3, q3, rfl, rfl, rfl, h3, r3⟩ := trodAll_cons r2
  obtain ⟨rfl, rfl, rfl⟩ := trodAll_nil r3
  obtain rfl : args = #[v0, v1, v2, v3] := by cases args; simp_all
  obtain ⟨rfl, rfl⟩ := trodVars_none hV
  obtain ⟨A0, n0, c0, l0, rfl, w0, y0, z0⟩ := open_strl Try.underlying61 Try.underlying9 (by kernel_rfl) (hval 0 61 v0 rfl rfl) h0
  obtain ⟨l1, rfl, w1, y1⟩ := open_i64 Try.underlying3 (hval 1 3 v1 rfl rfl) h1
  obtain ⟨A2, n2, c2, l2, rfl, w2, y2, z2⟩ := open_intl Try.underlying24 Try.underlying3 (by kernel_rfl) (hval 2 24 v2 rfl rfl) h2
  obtain ⟨l3, rfl, hd3⟩ := open_strz Try.underlying9 (hval 3 9 v3 rfl rfl) h3
  have w3 := sized_str hsz 3 (by rw [Try.params12]; rfl) (by rw [← hd3]; rfl)
  clear hA0 hval0
  refine (weavePlays_law A0 n0 c0 l0 y0 z0 l1 w1 y1 A2 n2 c2 l2 y2 z2 l3 w3 W w0 w2).mono fun e W' ⟨he, hg⟩ => ?_
  subst he
  have hlt := fun x hx => hW'.lt x hx
  exact ⟨_, rfl, post_of_below hW' (fun _ _ _ => (trodAll_cons_mk (shut_bool Try.underlying4 _) trodAll_mk0))
    (fun sp hsp => args_stay (by kernel_rfl) hg.below sp _ _ _ _ (by kernel_rfl) hA1 (fun x hx => hlt x (List.mem_append.2 (.inl hx))) (fun x hx => hsp x (List.mem_append.2 (.inl hx)))) (fun _ _ => rfl) rfl
    hg.below (ok_one (by kernel_rfl) rfl (okWide_bool_mk Try.underlying4 _))⟩
theorem weavePlays_over : Rows.weavePlaysRow.holds Try.pinned (OpenSpec.ofChange Rows.weavePlaysSpec) :=
  OpenClaim.holds_of_wide 12 Try.f12 rfl rfl rfl rfl rfl rfl rfl ⟨rfl, rfl, rfl, rfl, rfl⟩ rfl rfl rfl rfl rfl (by kernel_rfl) Try.func12 (by kernel_rfl)
    (of_decide_eq_true (by kernel_rfl)) (by unfold Func.isWrapper; first | (rw [if_pos (by decide +kernel)]; kernel_rfl) | (rw [if_neg (by decide +kernel)]; exact ⟨rfl, rfl⟩))
    (fun os started H enc _ => weavePlays_lifted os started H enc)
/-- THE STATEMENT -/
theorem weavePlays_holds : Rows.WeavePlaysSaid := weavePlays_over
end Go.Proofs.Ytlhedbjjlomniaa
