/- What the laws share, part 4 (DelS, MshK, MshD, MshG, MshC, MshL, MshX, MshQ, MshY, MrR, MrK, MrS, MrY, MdA). No condition but those that each theorem names. -/
import Derived.Test.YtbejifbiffeamaaU1
import Derived.Test.YtbejifbiffeamaaU2
import Derived.Test.YtbejifbiffeamaaU3
import Derived.Shelf.Slices.Delete
set_option linter.unusedSimpArgs false
set_option linter.unusedVariables false
namespace Go.Proofs.Ytbejifbiffeamaa
open Go.RowKit
attribute [local go_sem] extract_mid extract_drop bget bsize wrap64_u8 i64_u8 u64_u8 bappend
open Go.Shelf Go.Sort
def shDel_ren : Go.Shelf.Ren := ⟨fun | 24 => 80 | n => n, fun | 0 => 0 | 3 => 3 | 4 => 4 | 9 => 9 | 24 => 22 | n => n, fun | n => n⟩
theorem shDel : Go.Proofs.Lays2.n24 Try.prog shDel_ren := {
  mixed := by kernel_rfl
  f24 := Try.func80.trans (congrArg some (by kernel_rfl))
  t0 := Try.underlying0
  a0 := Try.isAgg0
  z0 := Try.sizeOf0
  v0 := Try.zeroValue0
  t3 := Try.underlying3
  a3 := Try.isAgg3
  z3 := Try.sizeOf3
  v3 := Try.zeroValue3
  t4 := Try.underlying4
  a4 := Try.isAgg4
  z4 := Try.sizeOf4
  v4 := Try.zeroValue4
  t9 := Try.underlying9
  a9 := Try.isAgg9
  z9 := Try.sizeOf9
  v9 := Try.zeroValue9
  t24 := Try.underlying22
  a24 := Try.isAgg22
  z24 := Try.sizeOf22
  v24 := Try.zeroValue22
  i9 := by kernel_rfl }
theorem putCells_at {c : Array Value} {d : Array (List UInt8)} (k : Nat) (hk : k < d.size) (hc : d.size ≤ c.size) : (putCells encStr 0 d c)[k]? = some (sv d[k]!) := by
  unfold putCells
  rw [Array.getElem?_mapIdx, Array.getElem?_eq_getElem (by omega), Option.map_some, if_pos ⟨by omega, by omega⟩]
  rfl
theorem erase_form (r : List (List UInt8)) (i : Nat) (hi : i < r.length) : (r.take i ++ r.drop (i + 1) ++ List.replicate (i + 1 - i) ([] : List UInt8)).take (r.length - 1) = r.eraseIdx i := by
  rw [List.take_append_of_le_length (by simp; omega), List.take_of_length_le (by simp; omega), List.eraseIdx_eq_take_drop_succ]
theorem del_star {L : List SProp} {g n c : Nat} {x y : Int} {r : List (List UInt8)} (i : Nat) (hx : x = i) (hy : y = ((i + 1 : Nat) : Int)) (hn : r.length = n) (hi : i < n) (w : World) (hM : Star (ownE 9 1 (some ⟨g, 0, none⟩) n c (svs r) :: L) w) :
    Calls Try.prog 80 #[.slice (some ⟨g, 0, none⟩) n c, .int .i64 x, .int .i64 y] w fun e w' => e = .returned (.slice (some ⟨g, 0, none⟩) (n - 1) c) ∧ Star (ownE 9 1 (some ⟨g, 0, none⟩) (n - 1) c (svs (r.eraseIdx i)) :: L) w' := by
  subst hx hy hn
  rcases hM.head.2 with ⟨e1, _⟩ | ⟨g', cap, cur, e1, _, hg, hnc, hcm, hsz, hcur⟩
  · cases e1
  · injection e1 with e1 e2 e3
    injection e1 with e1
    injection e1 with e1
    subst e1 e3
    have hat : ∀ j v, (svs r)[j]? = some v → cur[j]? = some v := fun j v hj => by
      have hj2 : j < r.length * 1 := by have := (List.getElem?_eq_some_iff.1 hj).1; simp [svs] at this; omega
      rw [← hcur, List.getElem?_take, if_pos hj2, Array.getElem?_toList] at hj
      exact hj
    have hH : Holds encStr w g 0 r.toArray := fun j hj => by
      have hj2 : j < r.length := by simpa using hj
      refine ⟨?_, ?_⟩
      · unfold World.cell?
        simp only [hg]
        have h1 : (svs r)[j]? = some (sv r[j]) := by unfold svs; rw [List.getElem?_map, List.getElem?_eq_getElem hj2]; rfl
        have h2 := hat j _ h1
        rw [getElem!_pos r.toArray j hj]
        simp only [Option.isSome_none, Bool.false_eq_true, if_false, Nat.zero_add]
        exact h2
      · unfold World.frozen?
        simp only [hg]
        simp
    have hcall := Any.slices_Delete_string shDel g 0 c i (i + 1) r w hH hnc hcm (by omega) (by omega)
    refine Calls.mono hcall fun e w' ⟨he, q, hw⟩ => ?_
    have hl1 : i + 1 - i = 1 := by omega
    refine ⟨by rw [he, hl1], ?_⟩
    obtain ⟨d, hd⟩ : ∃ d, d = (r.take i ++ r.drop (i + 1) ++ List.replicate (i + 1 - i) ([] : List UInt8)) := ⟨_, rfl⟩
    have hdl : d.length = r.length := by rw [hd]; simp; omega
    rw [← hd] at hw
    have hblk : w'.heap[g]? = some (.cells (putCells encStr 0 d.toArray cur) 9 (0, 0)) := by
      rw [hw]
      unfold putRow mapBlock
      simp only [Array.getElem?_modify, if_true, heap_ahead, hg, Option.map_some, onCells]
    have hch : Ch [g] w w' := by
      rw [hw]
      refine ⟨rfl, rfl, rfl, by simp, fun k _ hk => ?_⟩
      unfold putRow mapBlock
      simp only [List.mem_singleton] at hk
      simp [Array.getElem?_modify, Ne.symm hk]
    refine hM.put (bs := [g]) rfl hch (fun j hj => .inl ⟨_, rfl, List.mem_singleton.1 hj⟩) ?_ (fun k hk => .inl hk)
    have hlen : (svs (r.eraseIdx i)).length = (r.length - 1) * 1 := by simp [svs, List.length_eraseIdx, hi]
    refine ⟨hlen, .inr ⟨g, c, _, rfl, Nat.zero_le _, hblk, by omega, hcm, by rw [← hsz]; simp [putCells], ?_⟩⟩
    apply List.ext_getElem?
    intro k
    rw [List.getElem?_take]
    split
    · rename_i hk
      rw [Array.getElem?_toList, putCells_at k (by simp; omega) (by simp; omega), ← erase_form r i hi, ← hd]
      unfold svs
      rw [List.getElem?_map, List.getElem?_take, if_pos (by omega), List.getElem?_eq_getElem (by omega)]
      simp
      congr 1
      rw [List.getElem?_eq_getElem (by omega)]
      rfl
    · rw [List.getElem?_eq_none (by omega)]
end Go.Proofs.Ytbejifbiffeamaa
set_option linter.unusedSimpArgs false
set_option linter.unusedVariables false
namespace Go.Proofs.Ytbejifbiffeamaa
open Go.RowKit
attribute [local go_sem] extract_mid extract_drop bget bsize wrap64_u8 i64_u8 u64_u8 bappend
section
variable {F : List SProp} {a : MA} {M : Msh} {f : Sls} {l : List (Option Addr × List (List UInt8))}
set_option maxRecDepth 100000 in
set_option maxHeartbeats 4000000 in
theorem pick_no (hok : M.ok) (hT : Tied M f l) {tI k iI : Int} (t : Nat) (ht0 : tI = t) (ht : t < M.n) (k1 : -9223372036854775808 ≤ k) (k2 : k ≤ 9223372036854775807) (hi : iI < 0 ∨ (((M.bx t).row k).length : Int) ≤ iI) (w : World) (hM : Star (meshE a M f :: rowsE l :: F) w) :
    Calls Try.prog 79 #[mptr a, .int .i64 tI, .int .i64 k, .int .i64 iI] w fun e w' => e = .returned (.tuple #[.pointer none, .string ⟨#[]⟩, .bool false]) ∧ Star (meshE a M f :: rowsE l :: F) w' := by
  have hn64 := hok.n64
  have hB := hok.bx t ht
  have HK := Lib.hid (int_keyI k1 k2)
  have HB0 := Lib.hid (boxesC_at a M (i := t) (j := 0) ht (by omega))
  have hM2 := hM.mopen2 ht
  clear hM
  have hM := hM2
  clear hM2
  obtain ⟨R, hR⟩ : ∃ R, R = ((List.range M.n).erase t).map (mpE a M f) ++ F := ⟨_, rfl⟩
  rw [← hR] at hM
  have HR := Lib.hid hR
  have HTT : Hid (∀ (L : List SProp) (w : World), Star L w → mshE a M.n M.lost ∈ L → Calls Try.prog 44 #[mptr a, .int .i64 tI] w fun r w' => r = .returned (bptr a t) ∧ Star L w') := fun L w hM hx => at_yes t ht0 ht w hM hx
  obtain ⟨n, hn⟩ : ∃ n, ((M.bx t).row k).length = n := ⟨_, rfl⟩
  rw [hn] at hi
  by_cases hi0 : iI < 0
  · clear hR hok hB ht0 hT hi
    go_enter Try.func79, Try.ntmps79
    go_wp2_with (first | (go_at_call 44; have hM0 := hM; clear hM; (first | (with_reducible refine (HTT.out _ _ hM0 (by (repeat (first | assumption | (with_reducible exact mZ) | apply mS)); first | done | fail)).mono ?_) | fail); clear hM0; rintro _ w ⟨rfl, hM⟩))
    go_ret3
    rw [HR.out] at hM
    exact ⟨rfl, hM.mclose ht⟩
  · have hi3 : decide (iI < 0) = false := by simp; omega
    have hi1 : (n : Int) ≤ iI := by omega
    by_cases hin : k ∈ (M.bx t).ks
    · obtain ⟨A, c, hf, hnc, hAl⟩ := hT.at_ t ht k hin
      rw [hn] at hf
      have HHIT : Hid ((Value.int .i64 k, Value.slice A n c) ∈ bmap M f t) := by
        show _ ∈ _
        rw [← hf]
        exact List.mem_map.2 ⟨k, hin, rfl⟩
      clear hR hok hB ht0 hT hin hf hn hi
      go_enter Try.func79, Try.ntmps79
      go_wp2_with (first | (go_at_call 44; have hM0 := hM; clear hM; (first | (with_reducible refine (HTT.out _ _ hM0 (by (repeat (first | assumption | (with_reducible exact mZ) | apply mS)); first | done | fail)).mono ?_) | fail); clear hM0; rintro _ w ⟨rfl, hM⟩) | (first | ((with_reducible refine at_load' ?_); (refine BigFrame.wpList_want (by rfl) fun K hK => ws_load1 hM rfl rfl (by (repeat (first | assumption | (with_reducible exact mZ) | apply mS)); first | done | fail) (by exact HB0.out) (by decide +kernel) (hK _ _ ?_); clear hK K)) | fail) | (first | ((with_reducible refine at_lookup' ?_); (refine BigFrame.wpList_want (by rfl) fun K hK => ws_of_ex (ex_hit1 (key := .int .i64 k) hM rfl Try.underlying92 rfl rfl (by (repeat (first | assumption | (with_reducible exact mZ) | apply mS)); first | done | fail) keyed_i2 HK.out HHIT.out) (hK _ _ ?_); clear hK K)) | fail))
      go_ret3
      rw [HR.out] at hM
      exact ⟨rfl, hM.mclose ht⟩
    · have hr : (M.bx t).row k = [] := by
        by_cases e : (M.bx t).row k = []
        · exact e
        · exact absurd ((hB.mem k).2 e) hin
      have HMISS : Hid (∀ p ∈ bmap M f t, p.1 ≠ Value.int .i64 k) := fun p hp => by
        obtain ⟨j, hj, rfl⟩ := List.mem_map.1 hp
        intro e
        injection e with _ e
        exact hin (e ▸ hj)
      have hi2 : (0 : Int) ≤ iI := by omega
      clear hR hok hB ht0 hT hin hr hn hi hi1
      go_enter Try.func79, Try.ntmps79
      go_wp2_with (first | (go_at_call 44; have hM0 := hM; clear hM; (first | (with_reducible refine (HTT.out _ _ hM0 (by (repeat (first | assumption | (with_reducible exact mZ) | apply mS)); first | done | fail)).mono ?_) | fail); clear hM0; rintro _ w ⟨rfl, hM⟩) | (first | ((with_reducible refine at_load' ?_); (refine BigFrame.wpList_want (by rfl) fun K hK => ws_load1 hM rfl rfl (by (repeat (first | assumption | (with_reducible exact mZ) | apply mS)); first | done | fail) (by exact HB0.out) (by decide +kernel) (hK _ _ ?_); clear hK K)) | fail) | (first | ((with_reducible refine at_lookup' ?_); (refine BigFrame.wpList_want (by rfl) fun K hK => ws_of_ex (ex_miss1 (key := .int .i64 k) hM rfl Try.underlying92 zero_row rfl rfl (by (repeat (first | assumption | (with_reducible exact mZ) | apply mS)); first | done | fail) keyed_i2 HK.out HMISS.out) (hK _ _ ?_); clear hK K)) | fail))
      go_ret3
      rw [HR.out] at hM
      exact ⟨rfl, hM.mclose ht⟩
set_option maxRecDepth 100000 in
set_option maxHeartbeats 4000000 in
theorem pick_ok (hok : M.ok) (hT : Tied M f l) {tI k iI : Int} (t i : Nat) (ht0 : tI = t) (ht : t < M.n) (hi0 : iI = i) {x : List UInt8} (hx : ((M.bx t).row k)[i]? = some x) (w : World) (hM : Star (meshE a M f :: rowsE l :: F) w) :
    Calls Try.prog 79 #[mptr a, .int .i64 tI, .int .i64 k, .int .i64 iI] w fun e w' => e = .returned (.tuple #[bptr a t, .string ⟨x.toArray⟩, .bool true]) ∧ Star (meshE a M f :: rowsE l :: F) w' := by
  subst hi0
  have hn64 := hok.n64
  have hB := hok.bx t ht
  have hin : k ∈ (M.bx t).ks := (hB.mem k).2 fun e => by rw [e] at hx; simp at hx
  have k1 := (hB.i64 k hin).1
  have k2 := (hB.i64 k hin).2
  have HK := Lib.hid (int_keyI k1 k2)
  have HB0 := Lib.hid (boxesC_at a M (i := t) (j := 0) ht (by omega))
  obtain ⟨A, c, hf, hnc, hAl⟩ := hT.at_ t ht k hin
  obtain ⟨r, hr⟩ : ∃ r, (M.bx t).row k = r := ⟨_, rfl⟩
  rw [hr] at hf hnc hAl hx
  have hM2 := (hM.mopen2 ht).rows_view (l := l) (by (repeat (first | assumption | (with_reducible exact mZ) | apply mS)); first | done | fail) hAl
  clear hM
  have hM := hM2
  clear hM2
  obtain ⟨R, hR⟩ : ∃ R, R = ((List.range M.n).erase t).map (mpE a M f) ++ F := ⟨_, rfl⟩
  rw [← hR] at hM
  have HR := Lib.hid hR
  have HTT : Hid (∀ (L : List SProp) (w : World), Star L w → mshE a M.n M.lost ∈ L → Calls Try.prog 44 #[mptr a, .int .i64 tI] w fun r w' => r = .returned (bptr a t) ∧ Star L w') := fun L w hM hx => at_yes t ht0 ht w hM hx
  have hil : i < r.length := (List.getElem?_eq_some_iff.1 hx).1
  obtain ⟨n, hn⟩ : ∃ n, r.length = n := ⟨_, rfl⟩
  rw [hn] at hM hf hnc hil
  obtain ⟨ad, rfl⟩ : ∃ ad, A = some ad := by
    obtain ⟨ad, e, _⟩ := (hM.row (A := A) (n := n) (xs := svs r) (by (repeat (first | assumption | (with_reducible exact mZ) | apply mS)); first | done | fail)).2 (by omega)
    exact ⟨ad, e⟩
  have HHIT : Hid ((Value.int .i64 k, Value.slice (some ad) n c) ∈ bmap M f t) := by
    show _ ∈ _
    rw [← hf]
    exact List.mem_map.2 ⟨k, hin, rfl⟩
  have HV : Hid ((svs r)[i]? = some (.string ⟨x.toArray⟩)) := by
    show _ = _
    unfold svs
    rw [List.getElem?_map, hx]
    rfl
  have d1 : decide ((n : Int) ≤ (i : Int)) = false := by simp; omega
  have d2 : decide (n ≤ i) = false := by simp; omega
  have hiI : (i : Int) < (n : Int) := by omega
  clear hR hok hB ht0 hT hin hf hn hr hx hAl
  go_enter Try.func79, Try.ntmps79
  go_wp2_with (first | (go_at_call 44; have hM0 := hM; clear hM; (first | (with_reducible refine (HTT.out _ _ hM0 (by (repeat (first | assumption | (with_reducible exact mZ) | apply mS)); first | done | fail)).mono ?_) | fail); clear hM0; rintro _ w ⟨rfl, hM⟩) | (first | ((with_reducible refine at_load' ?_); (refine BigFrame.wpList_want (by rfl) fun K hK => ws_load1 hM rfl rfl (by (repeat (first | assumption | (with_reducible exact mZ) | apply mS)); first | done | fail) (by exact HB0.out) (by decide +kernel) (hK _ _ ?_); clear hK K)) | fail) | (first | ((with_reducible refine at_lookup' ?_); (refine BigFrame.wpList_want (by rfl) fun K hK => ws_of_ex (ex_hit1 (key := .int .i64 k) hM rfl Try.underlying92 rfl rfl (by (repeat (first | assumption | (with_reducible exact mZ) | apply mS)); first | done | fail) keyed_i2 HK.out HHIT.out) (hK _ _ ?_); clear hK K)) | fail))
  (refine region_RS ([mpE a M f t, bxsE a M, rowE 1 (some ad) n (svs r)]) [] (by kernel_rfl) hM ?_; clear hM; change RS _ _ _ _ _ _ 13 (Array.replicate 13 false) _ _; refine RS_take (i := 0) rfl (by decide +kernel) (fun _ _ _ h => h) (by first | (intro x hx; (repeat (first | exact hx | apply mS)); done) | ((repeat (refine List.forall_mem_cons.2 ⟨(by (repeat (first | assumption | (with_reducible exact mZ) | apply mS)); first | done | fail), ?_⟩)); intro x hx; first | (cases hx; done) | ((repeat (first | exact hx | apply mS)); done))) (stab_pure (by rfl) (fun w => (by go_simp; try with_reducible rfl))) ?_; simp only [Act.put, List.setIfInBounds_toArray, List.set_cons_zero, List.set_cons_succ]; refine RS_take (i := 1) rfl (by decide +kernel) (fun _ _ _ h => h) (by first | (intro x hx; (repeat (first | exact hx | apply mS)); done) | ((repeat (refine List.forall_mem_cons.2 ⟨(by (repeat (first | assumption | (with_reducible exact mZ) | apply mS)); first | done | fail), ?_⟩)); intro x hx; first | (cases hx; done) | ((repeat (first | exact hx | apply mS)); done))) (stab_pure (by rfl) (fun w => (by go_simp; try with_reducible rfl))) ?_; simp only [Act.put, List.setIfInBounds_toArray, List.set_cons_zero, List.set_cons_succ]; refine RS_take (i := 2) rfl (by decide +kernel) (fun _ _ _ h => h) (by first | (intro x hx; (repeat (first | exact hx | apply mS)); done) | ((repeat (refine List.forall_mem_cons.2 ⟨(by (repeat (first | assumption | (with_reducible exact mZ) | apply mS)); first | done | fail), ?_⟩)); intro x hx; first | (cases hx; done) | ((repeat (first | exact hx | apply mS)); done))) (stab_pure (by rfl) (fun w => (by go_simp; try with_reducible rfl))) ?_; simp only [Act.put, List.setIfInBounds_toArray, List.set_cons_zero, List.set_cons_succ]; refine RS_take (i := 3) rfl (by decide +kernel) (fun _ _ _ h => h) (by first | (intro x hx; (repeat (first | exact hx | apply mS)); done) | ((repeat (refine List.forall_mem_cons.2 ⟨(by (repeat (first | assumption | (with_reducible exact mZ) | apply mS)); first | done | fail), ?_⟩)); intro x hx; first | (cases hx; done) | ((repeat (first | exact hx | apply mS)); done))) (stab_pure (by rfl) (fun w => (by go_simp; try with_reducible rfl))) ?_; simp only [Act.put, List.setIfInBounds_toArray, List.set_cons_zero, List.set_cons_succ]; refine RS_take (i := 4) rfl (by decide +kernel) (fun _ _ _ h => h) (by first | (intro x hx; (repeat (first | exact hx | apply mS)); done) | ((repeat (refine List.forall_mem_cons.2 ⟨(by (repeat (first | assumption | (with_reducible exact mZ) | apply mS)); first | done | fail), ?_⟩)); intro x hx; first | (cases hx; done) | ((repeat (first | exact hx | apply mS)); done))) (stab_read (by rfl) (fun L w hL hM => (ex_load1 (v := .map (some (a.b t))) hM rfl rfl (hL _ (by (repeat (first | assumption | (with_reducible exact mZ) | apply mS)); first | done | fail)) HB0.out (by decide +kernel)))) ?_; simp only [Act.put, List.setIfInBounds_toArray, List.set_cons_zero, List.set_cons_succ]; refine RS_take (i := 5) rfl (by decide +kernel) (fun _ _ _ h => h) (by first | (intro x hx; (repeat (first | exact hx | apply mS)); done) | ((repeat (refine List.forall_mem_cons.2 ⟨(by (repeat (first | assumption | (with_reducible exact mZ) | apply mS)); first | done | fail), ?_⟩)); intro x hx; first | (cases hx; done) | ((repeat (first | exact hx | apply mS)); done))) (stab_pure (by rfl) (fun w => (by go_simp; try with_reducible rfl))) ?_; simp only [Act.put, List.setIfInBounds_toArray, List.set_cons_zero, List.set_cons_succ]; refine RS_take (i := 6) rfl (by decide +kernel) (fun _ _ _ h => h) (by first | (intro x hx; (repeat (first | exact hx | apply mS)); done) | ((repeat (refine List.forall_mem_cons.2 ⟨(by (repeat (first | assumption | (with_reducible exact mZ) | apply mS)); first | done | fail), ?_⟩)); intro x hx; first | (cases hx; done) | ((repeat (first | exact hx | apply mS)); done))) (stab_read (by rfl) (fun L w hL hM => (ex_hit1 (key := .int .i64 k) hM rfl Try.underlying92 rfl rfl (hL _ (by (repeat (first | assumption | (with_reducible exact mZ) | apply mS)); first | done | fail)) keyed_i2 HK.out HHIT.out))) ?_; simp only [Act.put, List.setIfInBounds_toArray, List.set_cons_zero, List.set_cons_succ]; refine RS_take (i := 7) rfl (by decide +kernel) (fun _ _ _ h => h) (by first | (intro x hx; (repeat (first | exact hx | apply mS)); done) | ((repeat (refine List.forall_mem_cons.2 ⟨(by (repeat (first | assumption | (with_reducible exact mZ) | apply mS)); first | done | fail), ?_⟩)); intro x hx; first | (cases hx; done) | ((repeat (first | exact hx | apply mS)); done))) (stab_pure (by rfl) (fun w => (by go_simp; try with_reducible rfl))) ?_; simp only [Act.put, List.setIfInBounds_toArray, List.set_cons_zero, List.set_cons_succ]; refine RS_take (i := 8) rfl (by decide +kernel) (fun _ _ _ h => h) (by first | (intro x hx; (repeat (first | exact hx | apply mS)); done) | ((repeat (refine List.forall_mem_cons.2 ⟨(by (repeat (first | assumption | (with_reducible exact mZ) | apply mS)); first | done | fail), ?_⟩)); intro x hx; first | (cases hx; done) | ((repeat (first | exact hx | apply mS)); done))) (stab_pure (by rfl) (fun w => (by go_simp; try with_reducible rfl))) ?_; simp only [Act.put, List.setIfInBounds_toArray, List.set_cons_zero, List.set_cons_succ]; refine RS_take (i := 9) rfl (by decide +kernel) (fun _ _ _ h => h) (by first | (intro x hx; (repeat (first | exact hx | apply mS)); done) | ((repeat (refine List.forall_mem_cons.2 ⟨(by (repeat (first | assumption | (with_reducible exact mZ) | apply mS)); first | done | fail), ?_⟩)); intro x hx; first | (cases hx; done) | ((repeat (first | exact hx | apply mS)); done))) (stab_read (by rfl) (fun L w hL hM => (ex_rowload (v := .string ⟨x.toArray⟩) rfl (ad := ad) (k := i) rfl (hM.row (hL _ (by (repeat (first | assumption | (with_reducible exact mZ) | apply mS)); first | done | fail))) HV.out (by decide +kernel)))) ?_; simp only [Act.put, List.setIfInBounds_toArray, List.set_cons_zero, List.set_cons_succ]; refine RS_take (i := 10) rfl (by decide +kernel) (fun _ _ _ h => h) (by first | (intro x hx; (repeat (first | exact hx | apply mS)); done) | ((repeat (refine List.forall_mem_cons.2 ⟨(by (repeat (first | assumption | (with_reducible exact mZ) | apply mS)); first | done | fail), ?_⟩)); intro x hx; first | (cases hx; done) | ((repeat (first | exact hx | apply mS)); done))) (stab_pure (by rfl) (fun w => (by go_simp; try with_reducible rfl))) ?_; simp only [Act.put, List.setIfInBounds_toArray, List.set_cons_zero, List.set_cons_succ]; refine RS_take (i := 11) rfl (by decide +kernel) (fun _ _ _ h => h) (by first | (intro x hx; (repeat (first | exact hx | apply mS)); done) | ((repeat (refine List.forall_mem_cons.2 ⟨(by (repeat (first | assumption | (with_reducible exact mZ) | apply mS)); first | done | fail), ?_⟩)); intro x hx; first | (cases hx; done) | ((repeat (first | exact hx | apply mS)); done))) (stab_pure (by rfl) (fun w => (by go_simp; try with_reducible rfl))) ?_; simp only [Act.put, List.setIfInBounds_toArray, List.set_cons_zero, List.set_cons_succ]; refine RS_take (i := 12) rfl (by decide +kernel) (fun _ _ _ h => h) (by first | (intro x hx; (repeat (first | exact hx | apply mS)); done) | ((repeat (refine List.forall_mem_cons.2 ⟨(by (repeat (first | assumption | (with_reducible exact mZ) | apply mS)); first | done | fail), ?_⟩)); intro x hx; first | (cases hx; done) | ((repeat (first | exact hx | apply mS)); done))) (stab_pure (by rfl) (fun w => (by go_simp; try with_reducible rfl))) ?_; simp only [Act.put, List.setIfInBounds_toArray, List.set_cons_zero, List.set_cons_succ]; refine RS_done (by decide +kernel) (.inl (by first | (intro x hx; (repeat (first | exact hx | apply mS)); done) | ((repeat (refine List.forall_mem_cons.2 ⟨(by (repeat (first | assumption | (with_reducible exact mZ) | apply mS)); first | done | fail), ?_⟩)); intro x hx; first | (cases hx; done) | ((repeat (first | exact hx | apply mS)); done)))) (fun w hM => ?_))
  all_goals (
    go_wp2_with fail
    go_ret3
    have hM2 := hM.tail
    rw [HR.out] at hM2
    exact ⟨rfl, hM2.mclose ht⟩)
end
end Go.Proofs.Ytbejifbiffeamaa
set_option linter.unusedSimpArgs false
set_option linter.unusedVariables false
namespace Go.Proofs.Ytbejifbiffeamaa
open Go.RowKit
attribute [local go_sem] extract_mid extract_drop bget bsize wrap64_u8 i64_u8 u64_u8 bappend
theorem row_perm {ks : List Int} (h : ks.Nodup) {k : Int} (hk : k ∈ ks) {f : Int → Value} {v : Value} : (ks.map fun j => (Value.int .i64 j, if j = k then v else f j)).Perm ((Value.int .i64 k, v) :: (ks.filter fun x => decide (x ≠ k)).map fun j => (Value.int .i64 j, f j)) := by
  have h1 := (perm_out h hk).map fun j => (Value.int .i64 j, if j = k then v else f j)
  rw [List.map_cons, if_pos rfl] at h1
  refine h1.trans (List.Perm.cons _ (List.Perm.of_eq (List.map_congr_left fun j hj => ?_)))
  rw [if_neg (by have := (List.mem_filter.1 hj).2; simpa using this)]
theorem del_join {F : List SProp} {a : MA} {M : Msh} {f : Sls} {l : List (Option Addr × List (List UInt8))} {w : World} (hok : M.ok) (hT : Tied M f l) {t : Nat} (ht : t < M.n) {k : Int}
    (hM : Star (mapE Try.prog 3 (a.b t) (((M.bx t).ks.filter fun x => decide (x ≠ k)).map fun j => (Value.int .i64 j, f t j)) :: mshE a M.n M.lost :: bxsE a M :: rowsE l :: (((List.range M.n).erase t).map (mpE a M f) ++ F)) w) :
    Star (meshE a (M.put t ((M.bx t).set k [])) f :: rowsE l :: F) w := by
  refine Star.mjoin2 (M := M) (f := f) (i := t) ?_ ht rfl (fun j hj => by unfold bmap; rw [put_bx, if_neg hj])
  have e : boxesC a (M.put t ((M.bx t).set k [])) = boxesC a M := boxesC_same rfl fun i => by
    rw [put_bx]
    split
    · rename_i e; subst e; rfl
    · rfl
  have e2 : bmap (M.put t ((M.bx t).set k [])) f t = ((M.bx t).ks.filter fun x => decide (x ≠ k)).map fun j => (Value.int .i64 j, f t j) := by
    unfold bmap
    rw [put_bx, if_pos rfl, set_ks_del]
  unfold bxsE mpE
  rw [e, e2]
  exact hM
theorem clone_at {L : List SProp} {ad : Addr} {n c : Nat} {r : List (List UInt8)} (hn : n ≤ 1000000) (h0 : 0 < n) (w : World) (hM : Star L w) (hx : rowE 1 (some ad) n (svs r) ∈ L) :
    Calls Try.prog 45 #[.slice (some ad) n c] w fun e w' => ∃ g' c', e = .returned (.slice (some ⟨g', 0, none⟩) n c') ∧ Star (ownE 9 1 (some ⟨g', 0, none⟩) n c' (svs r) :: L) w' :=
  (clone_some hn w hM hx).mono fun _ _ ⟨A', c', e, h⟩ => by
    rcases h.head.2 with ⟨e1, h1⟩ | ⟨g', cap, cur, e1, _⟩
    · omega
    · injection e1 with e1 _ _
      subst e1
      exact ⟨g', c', e, h⟩
theorem erase_len1 {α : Type} {r : List α} {i m : Nat} (hn : r.length = m + 1) (hi : i < m + 1) : (r.eraseIdx i).length = m := by rw [List.length_eraseIdx, if_pos (by omega)]; omega
section
variable {F : List SProp} {a : MA} {M : Msh} {f : Sls} {l : List (Option Addr × List (List UInt8))}
set_option maxRecDepth 100000 in
set_option maxHeartbeats 8000000 in
theorem drop_ok (hok : M.ok) (hT : Tied M f l) {tI k iI : Int} (t i : Nat) (ht0 : tI = t) (ht : t < M.n) (hi0 : iI = i) {x : List UInt8} (hx : ((M.bx t).row k)[i]? = some x) (w : World) (hM : Star (meshE a M f :: rowsE l :: F) w) :
    Calls Try.prog 66 #[mptr a, .int .i64 tI, .int .i64 k, .int .i64 iI] w fun e w' => ∃ f' l', Hid (Tied (M.put t ((M.bx t).set k (((M.bx t).row k).eraseIdx i))) f' l') ∧ e = .returned (.bool true) ∧ Star (meshE a (M.put t ((M.bx t).set k (((M.bx t).row k).eraseIdx i))) f' :: rowsE l' :: F) w' := by
  have HPK := Lib.hid (fun (w : World) (hM : Star (meshE a M f :: rowsE l :: F) w) => pick_ok hok hT t i ht0 ht hi0 hx w hM)
  subst hi0
  have hn64 := hok.n64
  have hB := hok.bx t ht
  have hin : k ∈ (M.bx t).ks := (hB.mem k).2 fun e => by rw [e] at hx; simp at hx
  have k1 := (hB.i64 k hin).1
  have k2 := (hB.i64 k hin).2
  have hfew := hB.few k
  have HK := Lib.hid (int_keyI k1 k2)
  have HB0 := Lib.hid (boxesC_at a M (i := t) (j := 0) ht (by omega))
  obtain ⟨A, c, hf, hnc, hAl⟩ := hT.at_ t ht k hin
  obtain ⟨r, hr⟩ : ∃ r, (M.bx t).row k = r := ⟨_, rfl⟩
  rw [hr] at hf hnc hAl hx hfew
  have hil : i < r.length := (List.getElem?_eq_some_iff.1 hx).1
  obtain ⟨m, hn⟩ : ∃ m, r.length = m + 1 := ⟨r.length - 1, by omega⟩
  rw [hn] at hf hnc hil hfew
  obtain ⟨ad, rfl⟩ : ∃ ad, A = some ad := by
    have hM2 := (hM.mopen2 ht).rows_view (l := l) (by (repeat (first | assumption | (with_reducible exact mZ) | apply mS)); first | done | fail) hAl
    obtain ⟨ad, e, _⟩ := (hM2.row (A := A) (n := r.length) (xs := svs r) (by (repeat (first | assumption | (with_reducible exact mZ) | apply mS)); first | done | fail)).2 (by omega)
    exact ⟨ad, e⟩
  have HHIT : Hid ((Value.int .i64 k, Value.slice (some ad) (m + 1) c) ∈ bmap M f t) := by
    show _ ∈ _
    rw [← hf]
    exact List.mem_map.2 ⟨k, hin, rfl⟩
  have HCL : Hid (∀ (L : List SProp) (w : World), Star L w → rowE 1 (some ad) (m + 1) (svs r) ∈ L → Calls Try.prog 45 #[.slice (some ad) (m + 1) c] w fun e w' => ∃ g' c', e = .returned (.slice (some ⟨g', 0, none⟩) (m + 1) c') ∧ Star (ownE 9 1 (some ⟨g', 0, none⟩) (m + 1) c' (svs r) :: L) w') := fun L w hM hx => clone_at (by omega) (by omega) w hM hx
  have HDE : Hid (∀ (g c : Nat) (L : List SProp) (w : World), Star (ownE 9 1 (some ⟨g, 0, none⟩) (m + 1) c (svs r) :: L) w → Calls Try.prog 80 #[.slice (some ⟨g, 0, none⟩) (m + 1) c, .int .i64 i, .int .i64 ((i : Int) + 1)] w fun e w' => e = .returned (.slice (some ⟨g, 0, none⟩) m c) ∧ Star (ownE 9 1 (some ⟨g, 0, none⟩) m c (svs (r.eraseIdx i)) :: L) w') := fun g c L w hM => del_star (n := m + 1) i rfl (by omega) hn hil w hM
  have HRV : Hid (∀ (L : List SProp) (w : World), Star L w → rowsE l ∈ L → Star (rowE 1 (some ad) (m + 1) (svs r) :: L) w) := fun L w hM hx => by
    have := hM.rows_view hx hAl
    rwa [hn] at this
  have HTI := Lib.hid hT
  have HOK := Lib.hid hok
  have HBK := Lib.hid hB
  have HIN := Lib.hid hin
  have HN := Lib.hid hn
  have HR := Lib.hid hr
  have HTG := Lib.hid ht
  have HIL := Lib.hid hil
  have HNC := Lib.hid hnc
  have HEL := Lib.hid (erase_len1 hn hil)
  have HPN := Lib.hid (rises_nodup hB.rises)
  have hiI : (i : Int) < ((m + 1 : Nat) : Int) := by omega
  obtain ⟨R, hR⟩ : ∃ R, R = ((List.range M.n).erase t).map (mpE a M f) ++ F := ⟨_, rfl⟩
  have HOP : Hid (∀ w : World, Star (meshE a M f :: rowsE l :: F) w → Star (rowE 1 (some ad) (m + 1) (svs r) :: mpE a M f t :: mshE a M.n M.lost :: bxsE a M :: rowsE l :: R) w) := fun w hM => by
    have h := hM.mopen2 ht
    rw [← hR] at h
    exact HRV.out _ _ h (by (repeat (first | assumption | (with_reducible exact mZ) | apply mS)); first | done | fail)
  have HRR := Lib.hid hR
  clear hok hT hB hin hf hn hr hx hAl ht0 hnc hil hR ht
  cases m with
  | zero =>
    have HD : Hid (∀ (A : Option Addr) (c : Nat) (L : List SProp) (w : World), Star (mpE a M f t :: L) w → bxsE a M ∈ L → Calls Try.prog 47 #[bptr a t, .int .i64 k, .slice A 0 c] w fun r w' => r = .returned (.tuple #[]) ∧ Star (mapE Try.prog 3 (a.b t) (((M.bx t).ks.filter fun x => decide (x ≠ k)).map fun j => (.int .i64 j, f t j)) :: L) w') := fun A c L w hM hx => set_del (f := f t) HPN.out HIN.out k1 k2 HB0.out w hM hx
    go_enter Try.func66, Try.ntmps66
    go_wp2_with (first | ((go_at_call 79; have hM0 := hM; clear hM; (first | (with_reducible refine (HPK.out _ hM0).mono ?_) | fail); clear hM0; rintro _ w ⟨rfl, hM⟩); have hM2 := HOP.out _ hM; clear hM; have hM := hM2; clear hM2) | (first | ((with_reducible refine at_load' ?_); (refine BigFrame.wpList_want (by rfl) fun K hK => ws_load1 hM rfl rfl (by (repeat (first | assumption | (with_reducible exact mZ) | apply mS)); first | done | fail) (by exact HB0.out) (by decide +kernel) (hK _ _ ?_); clear hK K)) | fail) | (first | ((with_reducible refine at_lookup' ?_); (refine BigFrame.wpList_want (by rfl) fun K hK => ws_of_ex (ex_hit1 (key := .int .i64 k) hM rfl Try.underlying92 rfl rfl (by (repeat (first | assumption | (with_reducible exact mZ) | apply mS)); first | done | fail) keyed_i2 HK.out HHIT.out) (hK _ _ ?_); clear hK K)) | fail) | (go_at_call 45; have hM0 := hM; clear hM; (first | (with_reducible refine (HCL.out _ _ hM0 (by (repeat (first | assumption | (with_reducible exact mZ) | apply mS)); first | done | fail)).mono ?_) | fail); clear hM0; rintro _ w ⟨g', c', rfl, hM⟩) | (go_at_call 80; have hM0 := hM; clear hM; (first | (with_reducible refine (HDE.out _ _ _ _ hM0).mono ?_) | fail); clear hM0; rintro _ w ⟨rfl, hM⟩) | (go_at_call 47; have hM0 := hM; clear hM; (first | (with_reducible refine (HD.out _ _ _ _ (hM0.take (x := mpE a M f t) (by (repeat (first | (with_reducible exact Take.head) | apply Take.tail)); first | done | fail)) (by (repeat (first | assumption | (with_reducible exact mZ) | apply mS)); first | done | fail)).mono ?_) | fail); clear hM0; rintro _ w ⟨rfl, hM⟩))
    all_goals (
      go_ret
      have hM2 := hM.sel (R := mapE Try.prog 3 (a.b t) (((M.bx t).ks.filter fun x => decide (x ≠ k)).map fun j => (.int .i64 j, f t j)) :: mshE a M.n M.lost :: bxsE a M :: rowsE l :: R) (by repeat (first | (with_reducible exact Sel.refl) | (with_reducible exact Take.head) | (with_reducible apply Take.tail) | (with_reducible apply Sel.cons) | (with_reducible apply Sel.drop)))
      have e : ((M.bx t).row k).eraseIdx i = [] := by
        rw [HR.out]
        exact List.eq_nil_of_length_eq_zero HEL.out
      rw [HRR.out] at hM2
      rw [e]
      exact ⟨f, l, tied_del HOK.out HTI.out HTG.out k, rfl, del_join HOK.out HTI.out HTG.out hM2⟩)
  | succ m =>
    have HD : Hid (∀ (A : Option Addr) (c : Nat) (L : List SProp) (w : World), Star (mpE a M f t :: L) w → bxsE a M ∈ L → Calls Try.prog 47 #[bptr a t, .int .i64 k, .slice A (m + 1) c] w fun r w' => r = .returned (.tuple #[]) ∧ Star (mapE Try.prog 3 (a.b t) ((M.bx t).ks.map fun j => (.int .i64 j, if j = k then .slice A (m + 1) c else f t j)) :: L) w') := fun A c L w hM hx => set_row (f := f t) HPN.out HIN.out k1 k2 (by omega) HB0.out w hM hx
    go_enter Try.func66, Try.ntmps66
    go_wp2_with (first | ((go_at_call 79; have hM0 := hM; clear hM; (first | (with_reducible refine (HPK.out _ hM0).mono ?_) | fail); clear hM0; rintro _ w ⟨rfl, hM⟩); have hM2 := HOP.out _ hM; clear hM; have hM := hM2; clear hM2) | (first | ((with_reducible refine at_load' ?_); (refine BigFrame.wpList_want (by rfl) fun K hK => ws_load1 hM rfl rfl (by (repeat (first | assumption | (with_reducible exact mZ) | apply mS)); first | done | fail) (by exact HB0.out) (by decide +kernel) (hK _ _ ?_); clear hK K)) | fail) | (first | ((with_reducible refine at_lookup' ?_); (refine BigFrame.wpList_want (by rfl) fun K hK => ws_of_ex (ex_hit1 (key := .int .i64 k) hM rfl Try.underlying92 rfl rfl (by (repeat (first | assumption | (with_reducible exact mZ) | apply mS)); first | done | fail) keyed_i2 HK.out HHIT.out) (hK _ _ ?_); clear hK K)) | fail) | (go_at_call 45; have hM0 := hM; clear hM; (first | (with_reducible refine (HCL.out _ _ hM0 (by (repeat (first | assumption | (with_reducible exact mZ) | apply mS)); first | done | fail)).mono ?_) | fail); clear hM0; rintro _ w ⟨g', c', rfl, hM⟩) | (go_at_call 80; have hM0 := hM; clear hM; (first | (with_reducible refine (HDE.out _ _ _ _ hM0).mono ?_) | fail); clear hM0; rintro _ w ⟨rfl, hM⟩) | (go_at_call 47; have hM0 := hM; clear hM; (first | (with_reducible refine (HD.out _ _ _ _ (hM0.take (x := mpE a M f t) (by (repeat (first | (with_reducible exact Take.head) | apply Take.tail)); first | done | fail)) (by (repeat (first | assumption | (with_reducible exact mZ) | apply mS)); first | done | fail)).mono ?_) | fail); clear hM0; rintro _ w ⟨rfl, hM⟩))
    all_goals (
      go_ret
      have hM2 := hM.sel (R := mapE Try.prog 3 (a.b t) ((M.bx t).ks.map fun j => (.int .i64 j, if j = k then .slice (some ⟨g', 0, none⟩) (m + 1) c' else f t j)) :: ownE 9 1 (some ⟨g', 0, none⟩) (m + 1) c' (svs (r.eraseIdx i)) :: mshE a M.n M.lost :: bxsE a M :: rowsE l :: R) (by repeat (first | (with_reducible exact Sel.refl) | (with_reducible exact Take.head) | (with_reducible apply Take.tail) | (with_reducible apply Sel.cons) | (with_reducible apply Sel.drop)))
      rw [HRR.out] at hM2
      have hne : r.eraseIdx i ≠ [] := by intro e; have := HEL.out; rw [e] at this; simp at this
      obtain ⟨f', l', h1, h2⟩ := send_join HOK.out HTI.out HTG.out HEL.out.symm hne (row_perm HPN.out HIN.out) hM2
      rw [HR.out]
      exact ⟨f', l', h1, rfl, h2⟩)
end
end Go.Proofs.Ytbejifbiffeamaa
set_option linter.unusedSimpArgs false
set_option linter.unusedVariables false
namespace Go.Proofs.Ytbejifbiffeamaa
open Go.RowKit
attribute [local go_sem] extract_mid extract_drop bget bsize wrap64_u8 i64_u8 u64_u8 bappend
section
variable {L F : List SProp} {a : MA} {M : Msh} {f : Sls} {l : List (Option Addr × List (List UInt8))}
abbrev pickNo (a : MA) (tI k iI : Int) (L : List SProp) : Prop := ∀ w, Star L w → Calls Try.prog 79 #[mptr a, .int .i64 tI, .int .i64 k, .int .i64 iI] w fun e w' => e = .returned (.tuple #[.pointer none, .string ⟨#[]⟩, .bool false]) ∧ Star L w'
set_option maxRecDepth 100000 in
theorem drop_not {tI k iI : Int} (hp : pickNo a tI k iI L) (w : World) (hM : Star L w) :
    Calls Try.prog 66 #[mptr a, .int .i64 tI, .int .i64 k, .int .i64 iI] w fun e w' => e = .returned (.bool false) ∧ Star L w' := by
  have HP := Lib.hid hp
  clear hp
  go_enter Try.func66, Try.ntmps66
  go_wp2_with (first | (go_at_call 79; have hM0 := hM; clear hM; (first | (with_reducible refine (HP.out _ hM0).mono ?_) | fail); clear hM0; rintro _ w ⟨rfl, hM⟩))
  go_ret
  exact ⟨rfl, hM⟩
set_option maxRecDepth 100000 in
theorem again_not {tI k iI : Int} (hp : pickNo a tI k iI L) (w : World) (hM : Star L w) :
    Calls Try.prog 68 #[mptr a, .int .i64 tI, .int .i64 k, .int .i64 iI] w fun e w' => e = .returned (.bool false) ∧ Star L w' := by
  have HP := Lib.hid hp
  clear hp
  go_enter Try.func68, Try.ntmps68
  go_wp2_with (first | (go_at_call 79; have hM0 := hM; clear hM; (first | (with_reducible refine (HP.out _ hM0).mono ?_) | fail); clear hM0; rintro _ w ⟨rfl, hM⟩))
  go_ret
  exact ⟨rfl, hM⟩
set_option maxRecDepth 100000 in
theorem late_not {tI k iI : Int} (hp : pickNo a tI k iI L) (w : World) (hM : Star L w) :
    Calls Try.prog 69 #[mptr a, .int .i64 tI, .int .i64 k, .int .i64 iI] w fun e w' => e = .returned (.bool false) ∧ Star L w' := by
  have HP := Lib.hid hp
  clear hp
  go_enter Try.func69, Try.ntmps69
  go_wp2_with (first | (go_at_call 79; have hM0 := hM; clear hM; (first | (with_reducible refine (HP.out _ hM0).mono ?_) | fail); clear hM0; rintro _ w ⟨rfl, hM⟩))
  go_ret
  exact ⟨rfl, hM⟩
set_option maxRecDepth 100000 in
set_option maxHeartbeats 4000000 in
theorem again_ok (hok : M.ok) (hT : Tied M f l) {tI k iI : Int} (t q i : Nat) (ht0 : tI = t) (ht : t < M.n) (hk0 : k = q) (hq : q < M.n) (hi0 : iI = i) {x : List UInt8} (hx : ((M.bx t).row k)[i]? = some x) (hl0 : 0 ≤ M.lost) (hl1 : M.lost ≤ 1000000) (w : World) (hM : Star (meshE a M f :: rowsE l :: F) w) :
    Calls Try.prog 68 #[mptr a, .int .i64 tI, .int .i64 k, .int .i64 iI] w fun e w' => ∃ f' l', Hid (Tied (sendG M t k x) f' l') ∧ e = .returned (.bool (sendE M t k x == 0)) ∧ Star (meshE a (sendG M t k x) f' :: rowsE l' :: F) w' := by
  have HP := Lib.hid (fun (w : World) (hM : Star (meshE a M f :: rowsE l :: F) w) => pick_ok hok hT t i ht0 ht hi0 hx w hM)
  obtain ⟨e, he⟩ : ∃ e, sendE M t k x = e := ⟨_, rfl⟩
  have HS : Hid (∀ (g : Nat) (w : World) (L R1 R2 F : List SProp), Star L w → Take (rowE 1 (some ⟨g, 0, none⟩) 1 (ivs [tI])) L R1 → Take (meshE a M f) R1 R2 → Take (rowsE l) R2 F → Calls Try.prog 17 #[mptr a, .int .i64 k, .string ⟨x.toArray⟩, .slice (some ⟨g, 0, none⟩) 1 1] w fun r w' => ∃ f' l', Hid (Tied (sendG M t k x) f' l') ∧ r = .returned (.int .i64 e) ∧ Star (meshE a (sendG M t k x) f' :: rowsE l' :: F) w') := fun g w L R1 R2 F hM h1 h2 h3 => sendL hok t q ht0 hk0 ht hq x hl0 hl1 rfl he hT w hM h1 h2 h3
  rw [he]
  clear hok hT ht0 hk0 hi0 hx he hl0 hl1
  go_enter Try.func68, Try.ntmps68
  go_wp2_with (first | (go_at_call 79; have hM0 := hM; clear hM; (first | (with_reducible refine (HP.out _ hM0).mono ?_) | fail); clear hM0; rintro _ w ⟨rfl, hM⟩) | (first | ((with_reducible refine at_slice' ?_); (have hM0 := hM; clear hM; refine BigFrame.wpList_want (by rfl) fun K hK => ws_slice_row hM0 (n := 1) rfl 3 1 (.int .i64 0) [.int .i64 tI] Try.underlying23 (by kernel_rfl) rfl (by simp [Value.cells, iv, sv, bv]) (by rfl) (by decide) (cs := ivs [tI]) (by rfl) (fun g1 w hM => hK _ _ ?_); clear hM0 hK K)) | fail) | (go_at_call 17; have hM0 := hM; clear hM; (first | (with_reducible refine (HS.out _ _ _ _ _ _ hM0 (by (repeat (first | (with_reducible exact Take.head) | apply Take.tail)); first | done | fail) (by (repeat (first | (with_reducible exact Take.head) | apply Take.tail)); first | done | fail) (by (repeat (first | (with_reducible exact Take.head) | apply Take.tail)); first | done | fail)).mono ?_) | fail); clear hM0; rintro _ w ⟨f, l, HT, rfl, hM⟩))
  go_ret
  exact ⟨f, l, HT, rfl, hM⟩
set_option maxRecDepth 100000 in
set_option maxHeartbeats 4000000 in
theorem late_ok (hok : M.ok) (hT : Tied M f l) {tI k iI : Int} (t q i : Nat) (ht0 : tI = t) (ht : t < M.n) (hk0 : k = q) (hq : q < M.n) (hi0 : iI = i) {x : List UInt8} (hx : ((M.bx t).row k)[i]? = some x) (hl0 : 0 ≤ M.lost) (hl1 : M.lost ≤ 1000000) {M1 : Msh} (hM1 : M.put t ((M.bx t).set k (((M.bx t).row k).eraseIdx i)) = M1) (hok1 : M1.ok) (w : World) (hM : Star (meshE a M f :: rowsE l :: F) w) :
    Calls Try.prog 69 #[mptr a, .int .i64 tI, .int .i64 k, .int .i64 iI] w fun e w' => ∃ f' l', Hid (Tied (sendG M1 t k x) f' l') ∧ e = .returned (.bool (sendE M1 t k x == 0)) ∧ Star (meshE a (sendG M1 t k x) f' :: rowsE l' :: F) w' := by
  have HP := Lib.hid (fun (w : World) (hM : Star (meshE a M f :: rowsE l :: F) w) => pick_ok hok hT t i ht0 ht hi0 hx w hM)
  have HD : Hid (∀ (w : World), Star (meshE a M f :: rowsE l :: F) w → Calls Try.prog 66 #[mptr a, .int .i64 tI, .int .i64 k, .int .i64 iI] w fun e w' => ∃ f' l', Hid (Tied M1 f' l') ∧ e = .returned (.bool true) ∧ Star (meshE a M1 f' :: rowsE l' :: F) w') := fun w hM => by rw [← hM1]; exact drop_ok hok hT t i ht0 ht hi0 hx w hM
  have hn1 : M1.n = M.n := by rw [← hM1]; rfl
  have hlo : M1.lost = M.lost := by rw [← hM1]; rfl
  obtain ⟨e, he⟩ : ∃ e, sendE M1 t k x = e := ⟨_, rfl⟩
  have HS : Hid (∀ (f : Sls) (l : List (Option Addr × List (List UInt8))), Hid (Tied M1 f l) → ∀ (g : Nat) (w : World) (L R1 R2 F : List SProp), Star L w → Take (rowE 1 (some ⟨g, 0, none⟩) 1 (ivs [tI])) L R1 → Take (meshE a M1 f) R1 R2 → Take (rowsE l) R2 F → Calls Try.prog 17 #[mptr a, .int .i64 k, .string ⟨x.toArray⟩, .slice (some ⟨g, 0, none⟩) 1 1] w fun r w' => ∃ f' l', Hid (Tied (sendG M1 t k x) f' l') ∧ r = .returned (.int .i64 e) ∧ Star (meshE a (sendG M1 t k x) f' :: rowsE l' :: F) w') := fun f l HT g w L R1 R2 F hM h1 h2 h3 => sendL hok1 t q ht0 hk0 (by omega) (by omega) x (by omega) (by omega) rfl he HT w hM h1 h2 h3
  rw [he]
  clear hok hT ht0 hk0 hi0 hx he hl0 hl1 hM1 hok1 hn1 hlo
  go_enter Try.func69, Try.ntmps69
  go_wp2_with (first | (go_at_call 79; have hM0 := hM; clear hM; (first | (with_reducible refine (HP.out _ hM0).mono ?_) | fail); clear hM0; rintro _ w ⟨rfl, hM⟩) | (go_at_call 66; have hM0 := hM; clear hM; (first | (with_reducible refine (HD.out _ hM0).mono ?_) | fail); clear hM0; rintro _ w ⟨f, l, HT, rfl, hM⟩) | (first | ((with_reducible refine at_slice' ?_); (have hM0 := hM; clear hM; refine BigFrame.wpList_want (by rfl) fun K hK => ws_slice_row hM0 (n := 1) rfl 3 1 (.int .i64 0) [.int .i64 tI] Try.underlying23 (by kernel_rfl) rfl (by simp [Value.cells, iv, sv, bv]) (by rfl) (by decide) (cs := ivs [tI]) (by rfl) (fun g1 w hM => hK _ _ ?_); clear hM0 hK K)) | fail) | (go_at_call 17; have hM0 := hM; clear hM; (first | (with_reducible refine (HS.out f l HT _ _ _ _ _ _ hM0 (by (repeat (first | (with_reducible exact Take.head) | apply Take.tail)); first | done | fail) (by (repeat (first | (with_reducible exact Take.head) | apply Take.tail)); first | done | fail) (by (repeat (first | (with_reducible exact Take.head) | apply Take.tail)); first | done | fail)).mono ?_) | fail); clear hM0; rintro _ w ⟨f, l, HT, rfl, hM⟩))
  go_ret
  exact ⟨f, l, HT, rfl, hM⟩
end
end Go.Proofs.Ytbejifbiffeamaa
set_option linter.unusedSimpArgs false
set_option linter.unusedVariables false
namespace Go.Proofs.Ytbejifbiffeamaa
open Go.RowKit
attribute [local go_sem] extract_mid extract_drop bget bsize wrap64_u8 i64_u8 u64_u8 bappend
/-- What is cast: the first j addresses were seen. -/
def castM (M : Msh) (k : Int) (x : List UInt8) : Nat → Msh
  | 0 => M
  | j + 1 => if (j : Int) = k then castM M k x j else sendG (castM M k x j) j k x
structure CB (M : Msh) (j : Nat) (M' : Msh) : Prop where
  ok : M'.ok
  n : M'.n = M.n
  l0 : 0 ≤ M'.lost
  l1 : M'.lost ≤ M.lost + j
theorem cast_cb {M : Msh} (h : M.ok) {q : Nat} (hq : q < M.n) (x : List UInt8) (hl : 0 ≤ M.lost) (j : Nat) (hj : j ≤ M.n) : CB M j (castM M q x j) := by
  induction j with
  | zero => exact ⟨h, rfl, hl, by show M.lost ≤ _; omega⟩
  | succ j ih =>
    have ih := ih (by omega)
    unfold castM
    split
    · exact ⟨ih.ok, ih.n, ih.l0, by have := ih.l1; omega⟩
    · refine ⟨sendG_ok ih.ok (by have := ih.n; omega) (by omega) (by have := ih.n; omega) _, by rw [sendG_n, ih.n], ?_, ?_⟩
      · have := ih.l0
        unfold sendG
        split
        · exact this
        · show 0 ≤ _ + 1; omega
      · have := ih.l1
        unfold sendG
        split
        · show Msh.lost _ ≤ _; show (castM M q x j).lost ≤ _; omega
        · show (castM M q x j).lost + 1 ≤ _; omega
section
variable {F : List SProp} {a : MA} {M : Msh} {f : Sls} {l : List (Option Addr × List (List UInt8))}
set_option maxRecDepth 100000 in
set_option maxHeartbeats 8000000 in
theorem cast_ok (hok : M.ok) (hT : Tied M f l) {k : Int} (q : Nat) (hk0 : k = q) (hq : q < M.n) (x : List UInt8) (hl0 : 0 ≤ M.lost) (hl1 : M.lost ≤ 900000) (w : World) (hM : Star (meshE a M f :: rowsE l :: F) w) :
    Calls Try.prog 30 #[mptr a, .int .i64 k, .string ⟨x.toArray⟩] w fun r w' => ∃ f' l', Hid (Tied (castM M k x M.n) f' l') ∧ r = .returned (.tuple #[]) ∧ Star (meshE a (castM M k x M.n) f' :: rowsE l' :: F) w' := by
  subst hk0
  have hn64 := hok.n64
  have hn1 := hok.n1
  have HT := Lib.hid hT
  have HCB := Lib.hid (fun j hj => cast_cb hok hq x hl0 j hj)
  have HOK := Lib.hid hok
  obtain ⟨N, hN⟩ : ∃ N, M.n = N := ⟨_, rfl⟩
  have HN := Lib.hid hN
  have hM2 := hM.mopen2 (i := 0) hn1
  clear hM
  obtain ⟨R, hR⟩ : ∃ R, R = ((List.range M.n).erase 0).map (mpE a M f) ++ F := ⟨_, rfl⟩
  rw [← hR] at hM2
  have hM : Star (mpE a M f 0 :: mshE a N M.lost :: bxsE a M :: rowsE l :: R) w := by rw [← hN]; exact hM2
  have HR := Lib.hid hR
  clear hM2 hR hT hok
  rw [hN] at hn64 hn1 hq
  clear hN
  go_enter Try.func30, Try.ntmps30
  go_wp2_with (first | (first | ((with_reducible refine at_load' ?_); (refine BigFrame.wpList_want (by rfl) fun K hK => ws_load1 hM rfl rfl (by (repeat (first | assumption | (with_reducible exact mZ) | apply mS)); first | done | fail) (by first | rfl | assumption) (by decide +kernel) (hK _ _ ?_); clear hK K)) | fail))
  have hM2 : Star (meshE a M f :: rowsE l :: F) w := by
    rw [HR.out, ← HN.out] at hM
    exact hM.mclose HOK.out.n1
  clear hM
  have hM := hM2
  clear hM2
  go_loopw [12] (fun i wr => ∃ (j : Nat) (M' : Msh) (f : Sls) (l : List (Option Addr × List (List UInt8))), i = .int .i64 j ∧ j ≤ N ∧ Hid (castM M q x j = M') ∧ Hid (Tied M' f l) ∧ Star (meshE a M' f :: rowsE l :: F) wr) (fun i _ => N - (intOf i).toNat)
  case atStart => exact ⟨0, M, f, l, rfl, by omega, rfl, HT, hM⟩
  case round =>
    clear hM HT
    obtain ⟨j, M', f, l, rfl, hj, HC, HT, hM⟩ := hrel
    have hcb := HCB.out j (by rw [HN.out]; exact hj)
    rw [HC.out] at hcb
    have HB := Lib.hid hcb
    clear hcb
    by_cases hjn : j < N
    · have hjI : (j : Int) < (N : Int) := by omega
      by_cases hjq : j = q
      · have e1 : ((j : Int) == (q : Int)) = true := by simp; omega
        have e2 : decide ((j : Int) = (q : Int)) = true := by simp; omega
        have e3 : decide (j = q) = true := by simp; omega
        have HC2 : Hid (castM M q x (j + 1) = M') := by
          show castM M q x (j + 1) = M'
          unfold castM
          rw [if_pos (by omega)]
          exact HC.out
        subst hjq
        go_wp2_with fail
        go_roundw
        case rel => exact ⟨j + 1, M', f, l, rfl, by omega, HC2, HT, hM⟩
        case measure => simp [intOf]; omega
      · have e1 : ((j : Int) == (q : Int)) = false := by simp; omega
        have e2 : decide ((j : Int) = (q : Int)) = false := by simp; omega
        have e3 : decide (j = q) = false := by simp; omega
        have HC2 : Hid (castM M q x (j + 1) = sendG M' j q x) := by
          show castM M q x (j + 1) = _
          unfold castM
          rw [if_neg (by omega), HC.out]
        have HS : Hid (∀ (g : Nat) (w : World) (L R1 R2 F : List SProp), Star L w → Take (rowE 1 (some ⟨g, 0, none⟩) 1 (ivs [(j : Int)])) L R1 → Take (meshE a M' f) R1 R2 → Take (rowsE l) R2 F → Calls Try.prog 17 #[mptr a, .int .i64 q, .string ⟨x.toArray⟩, .slice (some ⟨g, 0, none⟩) 1 1] w fun r w' => ∃ f' l', Hid (Tied (sendG M' j q x) f' l') ∧ r = .returned (.int .i64 (sendE M' j q x)) ∧ Star (meshE a (sendG M' j q x) f' :: rowsE l' :: F) w') := fun g w L R1 R2 F hM h1 h2 h3 => sendL HB.out.ok j q rfl rfl (by rw [HB.out.n, HN.out]; exact hjn) (by rw [HB.out.n, HN.out]; exact hq) x HB.out.l0 (by have := HB.out.l1; omega) rfl rfl HT w hM h1 h2 h3
        clear hjq
        go_wp2_with (first | (first | ((with_reducible refine at_slice' ?_); (have hM0 := hM; clear hM; refine BigFrame.wpList_want (by rfl) fun K hK => ws_slice_row hM0 (n := 1) rfl 3 1 (.int .i64 0) [.int .i64 (j : Int)] Try.underlying23 (by kernel_rfl) rfl (by simp [Value.cells, iv, sv, bv]) (by rfl) (by decide) (cs := ivs [(j : Int)]) (by rfl) (fun g1 w hM => hK _ _ ?_); clear hM0 hK K)) | fail) | (go_at_call 17; have hM0 := hM; clear hM; (first | (with_reducible refine (HS.out _ _ _ _ _ _ hM0 (by (repeat (first | (with_reducible exact Take.head) | apply Take.tail)); first | done | fail) (by (repeat (first | (with_reducible exact Take.head) | apply Take.tail)); first | done | fail) (by (repeat (first | (with_reducible exact Take.head) | apply Take.tail)); first | done | fail)).mono ?_) | fail); clear hM0; rintro _ w ⟨f, l, HT, rfl, hM⟩))
        go_roundw
        case rel => exact ⟨j + 1, _, f, l, rfl, by omega, HC2, HT, hM⟩
        case measure => simp [intOf]; omega
    · obtain rfl : j = N := by omega
      go_wp2_with fail
      go_end0
      have HT2 : Hid (Tied (castM M q x M.n) f l) := by rw [HN.out, HC.out]; exact HT
      refine ⟨f, l, HT2, rfl, ?_⟩
      rw [HN.out, HC.out]
      exact hM
end
end Go.Proofs.Ytbejifbiffeamaa
set_option linter.unusedSimpArgs false
set_option linter.unusedVariables false
namespace Go.Proofs.Ytbejifbiffeamaa
open Go.RowKit
attribute [local go_sem] extract_mid extract_drop bget bsize wrap64_u8 i64_u8 u64_u8 bappend
def slA : Value → Option Addr
  | .slice A _ _ => A
  | _ => none
def slC : Value → Nat
  | .slice _ _ c => c
  | _ => 0
/-- How many wait at an address; at the first ones. -/
def rowN (M : Msh) (i : Nat) (k : Int) : Nat := ((M.bx i).row k).length
def totM (M : Msh) (i : Nat) : Nat := ((M.bx i).ks.map (rowN M i)).sum
def allM (M : Msh) : Nat → Nat
  | 0 => 0
  | i + 1 => allM M i + totM M i
abbrev encM (M : Msh) (f : Sls) (i : Nat) (k : Int) : Value × Value := (.int .i64 k, .slice (slA (f i k)) (rowN M i k) (slC (f i k)))
theorem bmap_enc {M : Msh} {f : Sls} {l : List (Option Addr × List (List UInt8))} (hT : Tied M f l) {i : Nat} (hi : i < M.n) : bmap M f i = (M.bx i).ks.map (encM M f i) := by
  unfold bmap
  refine List.map_congr_left fun k hk => ?_
  obtain ⟨A, c, e, _⟩ := hT.at_ i hi k hk
  show (Value.int .i64 k, f i k) = (.int .i64 k, .slice (slA (f i k)) (rowN M i k) (slC (f i k)))
  rw [e]
  rfl
theorem sum_le8 (g : Int → Nat) (l : List Int) (h : ∀ k, g k ≤ 8) : (l.map g).sum ≤ 8 * l.length := by
  induction l with
  | nil => simp
  | cons x xs ih => have := h x; simp only [List.map_cons, List.sum_cons, List.length_cons]; omega
theorem tot_le {M : Msh} (h : M.ok) {i : Nat} (hi : i < M.n) : totM M i ≤ 512 := by
  have h1 := sum_le8 (rowN M i) (M.bx i).ks (h.bx i hi).few
  have h2 := (h.bx i hi).cnt64
  unfold totM
  omega
theorem all_le {M : Msh} (h : M.ok) (i : Nat) (hi : i ≤ M.n) : allM M i ≤ 512 * i := by
  induction i with
  | zero => exact Nat.le_refl _
  | succ i ih =>
    have := ih (by omega)
    have := tot_le h (i := i) (by omega)
    show allM M i + totM M i ≤ _
    omega
theorem sum_perm {a b : List Nat} (h : a.Perm b) : a.sum = b.sum := by
  induction h with
  | nil => rfl
  | cons x _ ih => simp only [List.sum_cons, ih]
  | swap x y l => simp only [List.sum_cons]; omega
  | trans _ _ h1 h2 => exact h1.trans h2
section
variable {F : List SProp} {a : MA} {M : Msh} {f : Sls} {l : List (Option Addr × List (List UInt8))}
theorem info_box : (Try.prog.info? 94).map (fun i => i.zero) = some (some (.agg #[.map none, .int .i64 0])) := by kernel_rfl
set_option maxRecDepth 100000 in
set_option maxHeartbeats 16000000 in
theorem all_ok (hok : M.ok) (hT : Tied M f l) (w : World) (hM : Star (meshE a M f :: rowsE l :: F) w) :
    Calls Try.prog 31 #[mptr a] w fun r w' => r = .returned (.int .i64 (allM M M.n : Nat)) ∧ Star (meshE a M f :: rowsE l :: F) w' := by
  have hn64 := hok.n64
  have hn1 := hok.n1
  have HT := Lib.hid hT
  have HOK := Lib.hid hok
  obtain ⟨N, hN⟩ : ∃ N, M.n = N := ⟨_, rfl⟩
  have HN := Lib.hid hN
  have hM2 := hM.mopen2 (i := 0) hn1
  clear hM
  obtain ⟨R, hR⟩ : ∃ R, R = ((List.range M.n).erase 0).map (mpE a M f) ++ F := ⟨_, rfl⟩
  rw [← hR] at hM2
  have hM : Star (mpE a M f 0 :: mshE a N M.lost :: bxsE a M :: rowsE l :: R) w := by rw [← hN]; exact hM2
  have HR := Lib.hid hR
  clear hM2 hR hT hok
  rw [hN] at hn64 hn1
  clear hN
  go_enter Try.func31, Try.ntmps31
  go_wp2_with (first | (first | ((with_reducible refine at_load' ?_); (refine BigFrame.wpList_want (by rfl) fun K hK => ws_load1 hM rfl rfl (by (repeat (first | assumption | (with_reducible exact mZ) | apply mS)); first | done | fail) (by first | rfl | assumption) (by decide +kernel) (hK _ _ ?_); clear hK K)) | fail))
  have hM2 : Star (meshE a M f :: rowsE l :: F) w := by
    rw [HR.out, ← HN.out] at hM
    exact hM.mclose HOK.out.n1
  clear hM HR
  have hM := hM2
  clear hM2
  go_loopw [3, 13] (fun v i wr => ∃ (j A : Nat), i = .int .i64 j ∧ v = .int .i64 A ∧ j ≤ N ∧ Hid (allM M j = A) ∧ Star (meshE a M f :: rowsE l :: F) wr) (fun _ i _ => N - (intOf i).toNat)
  case atStart => exact ⟨0, 0, rfl, rfl, by omega, rfl, hM⟩
  case round =>
    clear hM
    obtain ⟨j, A, rfl, rfl, hj, HA, hM⟩ := hrel
    by_cases hjn : j < N
    · have hjI : (j : Int) < (N : Int) := by omega
      have hjm : j < M.n := by rw [HN.out]; exact hjn
      have hAle : A ≤ 512 * j := by have := all_le HOK.out j (by omega); rw [HA.out] at this; exact this
      have htl := tot_le HOK.out hjm
      have HTL := Lib.hid htl
      clear htl
      have hM2 := hM.mopen2 hjm
      clear hM
      obtain ⟨R, hR⟩ : ∃ R, R = ((List.range M.n).erase j).map (mpE a M f) ++ F := ⟨_, rfl⟩
      rw [← hR] at hM2
      have HR := Lib.hid hR
      have hM : Star (mapE Try.prog 3 (a.b j) ((M.bx j).ks.map (encM M f j)) :: mshE a M.n M.lost :: bxsE a M :: rowsE l :: R) wr := by rw [← bmap_enc HT.out hjm]; exact hM2
      clear hM2 hR
      have HB : Hid (∀ q v, ([.map (some (a.b j)), .int .i64 (M.bx j).last] : List Value)[q]? = some v → (boxesC a M ++ a.sp).toArray[j * 2 + q]? = some v) := fun q v hv => by
        have hq : q < 2 := (List.getElem?_eq_some_iff.1 hv).1
        rw [boxesC_at a M hjm hq]
        exact hv
      have HJM := Lib.hid hjm
      clear hjm
      obtain ⟨wq, rfl⟩ : ∃ wq : World, wq = wr := ⟨_, rfl⟩
      go_wp2_with (first | ((with_reducible refine at_load' ?_); refine BigFrame.wpList_want (by rfl) fun K hK => ws_load_mid hM rfl rfl (by (repeat (first | assumption | (with_reducible exact mZ) | apply mS)); first | done | fail) [.map (some (a.b j)), .int .i64 (M.bx j).last] HB.out (n := 2) rfl (by decide +kernel) (hK _ _ ?_); clear hK K) | (first | ((with_reducible refine at_alloc' ?_); (have hM0 := hM; clear hM; refine BigFrame.wpList_want (by rfl) fun K hK => ws_alloc hM0 (t := 94) rfl #[.map none, .int .i64 0] info_box (fun g5 w hM => hK _ _ ?_); clear hM0 hK K)) | fail) | (first | ((with_reducible refine at_store' ?_); (have hM0 := hM; clear hM; refine BigFrame.wpList_want (by rfl) fun K hK => ws_store hM0 rfl rfl rfl (by (repeat (first | (with_reducible exact Take.head) | apply Take.tail)); first | done | fail) (n := 2) (by rfl) (by rfl) (by kernel_rfl) (by simp [Value.oneCell']) (fun w hM => hK _ _ ?_); clear hM0 hK K)) | fail) | (first | ((with_reducible refine at_load' ?_); (refine BigFrame.wpList_want (by rfl) fun K hK => ws_load1 hM rfl rfl (by (repeat (first | assumption | (with_reducible exact mZ) | apply mS)); first | done | fail) (by first | rfl | assumption) (by decide +kernel) (hK _ _ ?_); clear hK K)) | fail) | (first | ((with_reducible refine at_range' ?_); (have hM0 := hM; clear hM; refine BigFrame.wpList_want (by rfl) fun K hK => ws_range_map hM0 rfl Try.underlying92 rfl (by (repeat (first | (with_reducible exact Take.head) | apply Take.tail)); first | done | fail) (fun gi w hM => hK _ _ ?_); clear hM0 hK K)) | fail))
      go_frame
      go_loopg [3] (M.bx j).ks.length (fun gk v wx => ∃ (vis lft : List Int) (B : Nat), gk = lft.length ∧ v = .int .i64 B ∧ Hid ((vis ++ lft).Perm (M.bx j).ks) ∧ Hid (B = A + (vis.map (rowN M j)).sum) ∧ Star (rangeE Try.prog 3 (a.b j) gi ((M.bx j).ks.map (encM M f j)) (lft.map (encM M f j)) :: mshE a M.n M.lost :: bxsE a M :: rowsE l :: R) wx)
      case atStart => exact ⟨[], (M.bx j).ks, A, rfl, rfl, List.Perm.refl _, rfl, hM.sel (by repeat (first | (with_reducible exact Sel.refl) | (with_reducible exact Take.head) | (with_reducible apply Take.tail) | (with_reducible apply Sel.cons) | (with_reducible apply Sel.drop)))⟩
      case round =>
        clear hM
        obtain ⟨vis, lft, B, hgk, rfl, hv, HBS, hM⟩ := hrel
        go_wp2_with (first | ((with_reducible refine at_next' ?_); have hM0 := hM; clear hM; refine BigFrame.wpList_want (by rfl) fun K hK => ws_next_enc (encM M f j) hM0 rfl rfl (by (repeat (first | (with_reducible exact Take.head) | apply Take.tail)); first | done | fail) (fun he w hM => hK _ _ ?_) (fun i lft' w hp hM => hK _ _ ?_); clear hM0 hK K) | (first | ((with_reducible refine at_entry' ?_); (refine BigFrame.wpList_want (by rfl) fun K hK => ws_of_ex (ex_entry hM rfl rfl (by (repeat (first | assumption | (with_reducible exact mZ) | apply mS)); first | done | fail)) (hK _ _ ?_); clear hK K)) | fail))
        · subst he
          have hs : (vis.map (rowN M j)).sum = totM M j := by
            have h1 := hv.out
            rw [List.append_nil] at h1
            exact sum_perm (h1.map _)
          have hA2 : Hid (allM M (j + 1) = B) := by
            show allM M j + totM M j = B
            rw [HA.out, HBS.out, hs]
          have hM3 : Star (mpE a M f j :: mshE a M.n M.lost :: bxsE a M :: rowsE l :: R) w := by
            unfold mpE
            rw [bmap_enc HT.out HJM.out]
            exact hM
          rw [HR.out] at hM3
          exact ⟨⟨j + 1, B, rfl, rfl, by omega, hA2, hM3.mclose HJM.out⟩, by simp [intOf]; omega⟩
        · have hB5 : B ≤ A + 512 := by
            have h1 := sum_le8 (rowN M j) vis (HOK.out.bx j HJM.out).few
            have h2 := hv.out.length_eq
            have h3 := (HOK.out.bx j HJM.out).cnt64
            rw [List.length_append] at h2
            have := HBS.out
            omega
          have hr8 : rowN M j i ≤ 8 := (HOK.out.bx j HJM.out).few i
          have hw : wrap64 ((B : Int) + (rowN M j i : Nat)) = ((B + rowN M j i : Nat) : Int) := by unfold wrap64; omega
          go_roundg lft'.length
          case measure => have := hp.length_eq; simp at this; omega
          case rel =>
            have hM3 : Star (entryE Try.prog 3 (a.b j) gi ((M.bx j).ks.map (encM M f j)) (lft'.map (encM M f j)) (.int .i64 i) (.slice (slA (f j i)) (rowN M j i) (slC (f j i))) :: mshE a M.n M.lost :: bxsE a M :: rowsE l :: R) _ := hM.sel (by repeat (first | (with_reducible exact Sel.refl) | (with_reducible exact Take.head) | (with_reducible apply Take.tail) | (with_reducible apply Sel.cons) | (with_reducible apply Sel.drop)))
            refine ⟨vis ++ [i], lft', B + rowN M j i, rfl, by rw [hw], ?_, ?_, hM3.range_of_entry⟩
            · show List.Perm _ _
              rw [List.append_assoc]
              exact (hp.symm.append_left vis).trans hv.out
            · show _ = _
              rw [List.map_append, List.sum_append, HBS.out]
              simp
              omega
    · obtain rfl : j = N := by omega
      go_wp2_with fail
      go_ret
      rw [HN.out, HA.out]
      exact ⟨rfl, hM⟩
end
end Go.Proofs.Ytbejifbiffeamaa
set_option linter.unusedSimpArgs false
set_option linter.unusedVariables false
namespace Go.Proofs.Ytbejifbiffeamaa
open Go.RowKit
attribute [local go_sem] extract_mid extract_drop bget bsize wrap64_u8 i64_u8 u64_u8 bappend
abbrev msh0E (a : MA) (lost : Int) : SProp := cellsE a.m 91 #[.slice none 0 0, .int .i64 lost]
abbrev atNo (a : MA) (x : Int) (L : List SProp) : Prop := ∀ w, Star L w → Calls Try.prog 44 #[mptr a, .int .i64 x] w fun r w' => r = .returned (.pointer none) ∧ Star L w'
abbrev atYes (a : MA) (x : Int) (i : Nat) (L : List SProp) : Prop := ∀ w, Star L w → Calls Try.prog 44 #[mptr a, .int .i64 x] w fun r w' => r = .returned (bptr a i) ∧ Star L w'
section
variable {L F : List SProp} {a : MA} {lost : Int}
set_option maxRecDepth 100000 in
theorem at_0 (x : Int) (hx : msh0E a lost ∈ L) : atNo a x L := by
  intro w hM
  by_cases h0 : x < 0
  · go_enter Try.func44, Try.ntmps44
    go_wp2_with (first | (first | ((with_reducible refine at_load' ?_); (refine BigFrame.wpList_want (by rfl) fun K hK => ws_load1 hM rfl rfl (by (repeat (first | assumption | (with_reducible exact mZ) | apply mS)); first | done | fail) (by first | rfl | assumption) (by decide +kernel) (hK _ _ ?_); clear hK K)) | fail))
    go_ret
    exact ⟨rfl, hM⟩
  · have h1 : 0 ≤ x := by omega
    have h2 : decide (x < 0) = false := by simp; omega
    go_enter Try.func44, Try.ntmps44
    go_wp2_with (first | (first | ((with_reducible refine at_load' ?_); (refine BigFrame.wpList_want (by rfl) fun K hK => ws_load1 hM rfl rfl (by (repeat (first | assumption | (with_reducible exact mZ) | apply mS)); first | done | fail) (by first | rfl | assumption) (by decide +kernel) (hK _ _ ?_); clear hK K)) | fail))
    go_ret
    exact ⟨rfl, hM⟩
set_option maxRecDepth 100000 in
set_option maxHeartbeats 4000000 in
theorem send_arg1 {g : Nat} {tI k : Int} (x : List UInt8) (h : atNo a tI L) (w : World) (hM : Star L w) (hF : rowE 1 (some ⟨g, 0, none⟩) 1 (ivs [tI]) ∈ L) :
    Calls Try.prog 17 #[mptr a, .int .i64 k, .string ⟨x.toArray⟩, .slice (some ⟨g, 0, none⟩) 1 1] w fun r w' => r = .returned (.int .i64 10) ∧ Star L w' := by
  have HA := Lib.hid h
  have HV : Hid ((ivs [tI])[0]? = some (.int .i64 tI)) := rfl
  clear h
  go_enter Try.func17, Try.ntmps17
  go_wp2_with fail
  go_loopw [9, 15] (fun e i wr => ((e = .int .i64 0 ∧ i = .int .i64 0) ∨ (e = .int .i64 10 ∧ i = .int .i64 1)) ∧ Star L wr) (fun _ i _ => 1 - (intOf i).toNat)
  case atStart => exact ⟨.inl ⟨rfl, rfl⟩, hM⟩
  case round =>
    clear hM
    obtain ⟨h, hM⟩ := hrel
    rcases h with ⟨rfl, rfl⟩ | ⟨rfl, rfl⟩
    · go_wp2_with (first | ((with_reducible refine at_load' ?_); refine BigFrame.wpList_want (by rfl) fun K hK => ws_rowload0 (k := 0) rfl rfl (hM.row (A := some ⟨g, 0, none⟩) (n := 1) (xs := ivs [tI]) (by (repeat (first | assumption | (with_reducible exact mZ) | apply mS)); first | done | fail)) HV.out (by decide +kernel) (hK _ _ ?_); clear hK K) | (go_at_call 44; have hM0 := hM; clear hM; (first | (with_reducible refine (HA.out _ hM0).mono ?_) | fail); clear hM0; rintro _ w ⟨rfl, hM⟩))
      go_roundw
      case rel => exact ⟨.inr ⟨rfl, rfl⟩, hM⟩
      case measure => simp [intOf]
    · go_wp2_with fail
      go_ret
      exact ⟨rfl, hM⟩
set_option maxRecDepth 100000 in
set_option maxHeartbeats 4000000 in
theorem send_arg2 {g t : Nat} {tI k : Int} (x : List UInt8) (h1 : atYes a tI t L) (h2 : atNo a k L) (w : World) (hM : Star L w) (hF : rowE 1 (some ⟨g, 0, none⟩) 1 (ivs [tI]) ∈ L) :
    Calls Try.prog 17 #[mptr a, .int .i64 k, .string ⟨x.toArray⟩, .slice (some ⟨g, 0, none⟩) 1 1] w fun r w' => r = .returned (.int .i64 10) ∧ Star L w' := by
  have HA := Lib.hid h1
  have HB := Lib.hid h2
  have HV : Hid ((ivs [tI])[0]? = some (.int .i64 tI)) := rfl
  clear h1 h2
  go_enter Try.func17, Try.ntmps17
  go_wp2_with fail
  go_loopw [9, 15] (fun e i wr => ((e = .int .i64 0 ∧ i = .int .i64 0) ∨ (e = .int .i64 10 ∧ i = .int .i64 1)) ∧ Star L wr) (fun _ i _ => 1 - (intOf i).toNat)
  case atStart => exact ⟨.inl ⟨rfl, rfl⟩, hM⟩
  case round =>
    clear hM
    obtain ⟨h, hM⟩ := hrel
    rcases h with ⟨rfl, rfl⟩ | ⟨rfl, rfl⟩
    · go_wp2_with (first | ((with_reducible refine at_load' ?_); refine BigFrame.wpList_want (by rfl) fun K hK => ws_rowload0 (k := 0) rfl rfl (hM.row (A := some ⟨g, 0, none⟩) (n := 1) (xs := ivs [tI]) (by (repeat (first | assumption | (with_reducible exact mZ) | apply mS)); first | done | fail)) HV.out (by decide +kernel) (hK _ _ ?_); clear hK K) | (go_at_call 44; have hM0 := hM; clear hM; (first | (with_reducible refine (HA.out _ hM0).mono ?_) | fail); clear hM0; rintro _ w ⟨rfl, hM⟩) | (go_at_call 44; have hM0 := hM; clear hM; (first | (with_reducible refine (HB.out _ hM0).mono ?_) | fail); clear hM0; rintro _ w ⟨rfl, hM⟩))
      go_roundw
      case rel => exact ⟨.inr ⟨rfl, rfl⟩, hM⟩
      case measure => simp [intOf]
    · go_wp2_with fail
      go_ret
      exact ⟨rfl, hM⟩
set_option maxRecDepth 100000 in
theorem take_out {tI : Int} (h : ∀ g, atNo a tI (cellsE g 31 #[.int .i64 0, .string ByteArray.empty] :: L)) (w : World) (hM : Star L w) :
    Calls Try.prog 18 #[mptr a, .int .i64 tI] w fun e w' => e = .returned (.tuple #[pktV 0 [], .bool false]) ∧ Star L w' := by
  have HA := Lib.hid h
  clear h
  go_enter Try.func18, Try.ntmps18
  go_wp2_with (first | (go_at_call 44; have hM0 := hM; clear hM; (first | (with_reducible refine (HA.out _ _ hM0).mono ?_) | fail); clear hM0; rintro _ w ⟨rfl, hM⟩) | (first | ((with_reducible refine at_alloc' ?_); (have hM0 := hM; clear hM; refine BigFrame.wpList_want (by rfl) fun K hK => ws_alloc hM0 (t := 31) rfl #[.int .i64 0, .string ByteArray.empty] info_pkt (fun g4 w hM => hK _ _ ?_); clear hM0 hK K)) | fail) | (first | ((with_reducible refine at_store' ?_); (have hM0 := hM; clear hM; refine BigFrame.wpList_want (by rfl) fun K hK => ws_store hM0 rfl rfl rfl (by (repeat (first | (with_reducible exact Take.head) | apply Take.tail)); first | done | fail) (n := 2) (by rfl) (by rfl) (by kernel_rfl) (by simp [Value.oneCell']) (fun w hM => hK _ _ ?_); clear hM0 hK K)) | fail))
  refine bodyPost_ret (results_row_tmp (P := Try.prog) (ty := 31) rfl _ _ g4 31 #[.int .i64 0, .string ⟨#[]⟩] 2 (.bool false) rfl rfl (hM.blk (by (repeat (first | assumption | (with_reducible exact mZ) | apply mS)); first | done | fail)) rfl (by decide +kernel)) rfl ?_
  exact ⟨rfl, hM.tail⟩
set_option maxRecDepth 100000 in
theorem waits_out {tI k : Int} (h : atNo a tI L) (w : World) (hM : Star L w) :
    Calls Try.prog 27 #[mptr a, .int .i64 tI, .int .i64 k] w fun e w' => e = .returned (.int .i64 0) ∧ Star L w' := by
  have HA := Lib.hid h
  clear h
  go_enter Try.func27, Try.ntmps27
  go_wp2_with (first | (go_at_call 44; have hM0 := hM; clear hM; (first | (with_reducible refine (HA.out _ hM0).mono ?_) | fail); clear hM0; rintro _ w ⟨rfl, hM⟩))
  go_ret
  exact ⟨rfl, hM⟩
set_option maxRecDepth 100000 in
theorem pick_out0 {tI k iI : Int} (h : atNo a tI L) : pickNo a tI k iI L := by
  intro w hM
  have HA := Lib.hid h
  clear h
  go_enter Try.func79, Try.ntmps79
  go_wp2_with (first | (go_at_call 44; have hM0 := hM; clear hM; (first | (with_reducible refine (HA.out _ hM0).mono ?_) | fail); clear hM0; rintro _ w ⟨rfl, hM⟩))
  go_ret3
  exact ⟨rfl, hM⟩
set_option maxRecDepth 100000 in
theorem cast_0 (k : Int) (x : List UInt8) (hx : msh0E a lost ∈ L) (w : World) (hM : Star L w) :
    Calls Try.prog 30 #[mptr a, .int .i64 k, .string ⟨x.toArray⟩] w fun r w' => r = .returned (.tuple #[]) ∧ Star L w' := by
  go_enter Try.func30, Try.ntmps30
  go_wp2_with (first | (first | ((with_reducible refine at_load' ?_); (refine BigFrame.wpList_want (by rfl) fun K hK => ws_load1 hM rfl rfl (by (repeat (first | assumption | (with_reducible exact mZ) | apply mS)); first | done | fail) (by first | rfl | assumption) (by decide +kernel) (hK _ _ ?_); clear hK K)) | fail))
  go_loopw [12] (fun i wr => i = .int .i64 0 ∧ Star L wr) (fun i _ => 0)
  case atStart => exact ⟨rfl, hM⟩
  case round =>
    clear hM
    obtain ⟨rfl, hM⟩ := hrel
    go_wp2_with fail
    go_end0
    exact ⟨rfl, hM⟩
set_option maxRecDepth 100000 in
theorem all_0 (hx : msh0E a lost ∈ L) (w : World) (hM : Star L w) :
    Calls Try.prog 31 #[mptr a] w fun r w' => r = .returned (.int .i64 0) ∧ Star L w' := by
  go_enter Try.func31, Try.ntmps31
  go_wp2_with (first | (first | ((with_reducible refine at_load' ?_); (refine BigFrame.wpList_want (by rfl) fun K hK => ws_load1 hM rfl rfl (by (repeat (first | assumption | (with_reducible exact mZ) | apply mS)); first | done | fail) (by first | rfl | assumption) (by decide +kernel) (hK _ _ ?_); clear hK K)) | fail))
  go_loopw [3, 13] (fun v i wr => v = .int .i64 0 ∧ i = .int .i64 0 ∧ Star L wr) (fun _ i _ => 0)
  case atStart => exact ⟨rfl, rfl, hM⟩
  case round =>
    clear hM
    obtain ⟨rfl, rfl, hM⟩ := hrel
    go_wp2_with fail
    go_ret
    exact ⟨rfl, hM⟩
set_option maxRecDepth 100000 in
theorem lost_0 (hx : msh0E a lost ∈ L) (w : World) (hM : Star L w) :
    Calls Try.prog 32 #[mptr a] w fun e w' => e = .returned (.int .i64 lost) ∧ Star L w' := by
  go_enter Try.func32, Try.ntmps32
  go_wp2_with (first | (first | ((with_reducible refine at_load' ?_); (refine BigFrame.wpList_want (by rfl) fun K hK => ws_load1 hM rfl rfl (by (repeat (first | assumption | (with_reducible exact mZ) | apply mS)); first | done | fail) (by first | rfl | assumption) (by decide +kernel) (hK _ _ ?_); clear hK K)) | fail))
  go_ret
  exact ⟨rfl, hM⟩
set_option maxRecDepth 100000 in
theorem new_0 (w : World) (hM : Star F w) :
    Calls Try.prog 15 #[.int .i64 0] w fun r w' => ∃ a : MA, r = .returned (mptr a) ∧ Star (msh0E a 0 :: F) w' := by
  go_enter Try.func15, Try.ntmps15
  go_wp2_with (first | (first | ((with_reducible refine at_box' ?_); (have hM0 := hM; clear hM; refine BigFrame.wpList_want (by rfl) fun K hK => ws_box hM0 rfl rfl (cs := #[.slice none 0 0, .int .i64 0]) rfl (fun g w hM => hK _ _ ?_); clear hM0 hK K)) | fail))
  go_loopw [9] (fun i wr => i = .int .i64 0 ∧ Star (cellsE g 91 #[.slice none 0 0, .int .i64 0] :: F) wr) (fun i _ => 0)
  case atStart => exact ⟨rfl, hM⟩
  case round =>
    clear hM
    obtain ⟨rfl, hM⟩ := hrel
    go_wp2_with fail
    go_ret
    exact ⟨⟨g, 0, fun _ => 0, 0, []⟩, rfl, hM⟩
set_option maxRecDepth 100000 in
set_option maxHeartbeats 4000000 in
theorem cast_bad {N : Nat} (hN : N ≤ 64) {k : Int} (hk : k < 0 ∨ (N : Int) ≤ k) (x : List UInt8) (hx : mshE a N lost ∈ L) (w : World) (hM : Star L w) :
    Calls Try.prog 30 #[mptr a, .int .i64 k, .string ⟨x.toArray⟩] w fun r w' => r = .returned (.tuple #[]) ∧ Star L w' := by
  have HK := Lib.hid hk
  clear hk
  go_enter Try.func30, Try.ntmps30
  go_wp2_with (first | (first | ((with_reducible refine at_load' ?_); (refine BigFrame.wpList_want (by rfl) fun K hK => ws_load1 hM rfl rfl (by (repeat (first | assumption | (with_reducible exact mZ) | apply mS)); first | done | fail) (by first | rfl | assumption) (by decide +kernel) (hK _ _ ?_); clear hK K)) | fail))
  go_loopw [12] (fun i wr => ∃ j : Nat, i = .int .i64 j ∧ j ≤ N ∧ Star L wr) (fun i _ => N - (intOf i).toNat)
  case atStart => exact ⟨0, rfl, by omega, hM⟩
  case round =>
    clear hM
    obtain ⟨j, rfl, hj, hM⟩ := hrel
    by_cases hjn : j < N
    · have hjI : (j : Int) < (N : Int) := by omega
      have e0 : ((j : Int) != k) = true := by have := HK.out; simp; omega
      have e1 : ((j : Int) == k) = false := by have := HK.out; simp; omega
      have HS : Hid (∀ (g : Nat) (w : World), Star (rowE 1 (some ⟨g, 0, none⟩) 1 (ivs [(j : Int)]) :: L) w → Calls Try.prog 17 #[mptr a, .int .i64 k, .string ⟨x.toArray⟩, .slice (some ⟨g, 0, none⟩) 1 1] w fun r w' => r = .returned (.int .i64 10) ∧ Star (rowE 1 (some ⟨g, 0, none⟩) 1 (ivs [(j : Int)]) :: L) w') := fun g w hM => send_arg2 (t := j) x (fun w hM => at_yes j rfl hjn w hM (List.mem_cons_of_mem _ hx)) (fun w hM => at_no k HK.out w hM (List.mem_cons_of_mem _ hx)) w hM List.mem_cons_self
      go_wp2_with (first | (first | ((with_reducible refine at_slice' ?_); (have hM0 := hM; clear hM; refine BigFrame.wpList_want (by rfl) fun K hK => ws_slice_row hM0 (n := 1) rfl 3 1 (.int .i64 0) [.int .i64 (j : Int)] Try.underlying23 (by kernel_rfl) rfl (by simp [Value.cells, iv, sv, bv]) (by rfl) (by decide) (cs := ivs [(j : Int)]) (by rfl) (fun g1 w hM => hK _ _ ?_); clear hM0 hK K)) | fail) | (go_at_call 17; have hM0 := hM; clear hM; (first | (with_reducible refine (HS.out _ _ hM0).mono ?_) | fail); clear hM0; rintro _ w ⟨rfl, hM⟩))
      go_roundw
      case rel => exact ⟨j + 1, rfl, by omega, hM.tail⟩
      case measure => simp [intOf]; omega
    · obtain rfl : j = N := by omega
      go_wp2_with fail
      go_end0
      exact ⟨rfl, hM⟩
end
end Go.Proofs.Ytbejifbiffeamaa
set_option linter.unusedSimpArgs false
set_option linter.unusedVariables false
namespace Go.Proofs.Ytbejifbiffeamaa
open Go.RowKit
namespace Msh
def has (M : Msh) (i : Int) : Prop := 0 ≤ i ∧ i < M.n
instance (M : Msh) (i : Int) : Decidable (M.has i) := inferInstanceAs (Decidable (_ ∧ _))
/-- Where the i-th of a source waits. -/
def there (M : Msh) (t k i : Int) : Prop := M.has t ∧ 0 ≤ i ∧ i < (((M.bx t.toNat).row k).length : Int)
instance (M : Msh) (t k i : Int) : Decidable (M.there t k i) := inferInstanceAs (Decidable (_ ∧ _ ∧ _))
def text (M : Msh) (t k i : Int) : List UInt8 := ((M.bx t.toNat).row k).getD i.toNat []
end Msh
structure Net (M : Msh) : Prop where
  ok : ∀ i, i < M.n → (M.bx i).ok
  n64 : M.n ≤ 64
  src : ∀ i, i < M.n → ∀ k ∈ (M.bx i).ks, k < M.n
  l0 : 0 ≤ M.lost
theorem Net.mok {M : Msh} (h : Net M) (h1 : 1 ≤ M.n) : M.ok := ⟨h.ok, h1, h.n64⟩
def sendX (M : Msh) (t k : Int) (x : List UInt8) : Msh := if M.has t ∧ M.has k then sendG M t.toNat k x else M
def sendXE (M : Msh) (t k : Int) (x : List UInt8) : Int := if M.has t ∧ M.has k then sendE M t.toNat k x else 10
def castX (M : Msh) (k : Int) (x : List UInt8) : Msh := if M.has k then castM M k x M.n else M
def dropX (M : Msh) (t k i : Int) : Msh := if M.there t k i then M.put t.toNat ((M.bx t.toNat).set k (((M.bx t.toNat).row k).eraseIdx i.toNat)) else M
def againX (M : Msh) (t k i : Int) : Msh := if M.there t k i then sendG M t.toNat k (M.text t k i) else M
def againE (M : Msh) (t k i : Int) : Bool := if M.there t k i then sendE M t.toNat k (M.text t k i) == 0 else false
def lateX (M : Msh) (t k i : Int) : Msh := if M.there t k i then sendG (dropX M t k i) t.toNat k (M.text t k i) else M
def lateE (M : Msh) (t k i : Int) : Bool := if M.there t k i then sendE (dropX M t k i) t.toNat k (M.text t k i) == 0 else false
def takeX (M : Msh) (t : Int) : Msh := if M.has t then (match (M.bx t.toNat).nxt with
  | some k => takeM M t.toNat k ((M.bx t.toNat).row k).tail
  | none => M) else M
/-- From whom, what, was there one. -/
def takeP (M : Msh) (t : Int) : Int × List UInt8 × Bool := if M.has t then (match (M.bx t.toNat).nxt with
  | some k => (k, ((M.bx t.toNat).row k).headD [], true)
  | none => (0, [], false)) else (0, [], false)
def waitsX (M : Msh) (t k : Int) : Nat := if M.has t then ((M.bx t.toNat).row k).length else 0
theorem text_at {M : Msh} {t k i : Int} (h : M.there t k i) : ((M.bx t.toNat).row k)[i.toNat]? = some (M.text t k i) := by
  have h1 : i.toNat < ((M.bx t.toNat).row k).length := by have := h.2; omega
  unfold Msh.text
  rw [List.getElem?_eq_getElem h1, List.getD_eq_getElem?_getD, List.getElem?_eq_getElem h1]
  rfl
theorem there_ks {M : Msh} (hN : Net M) {t k i : Int} (h : M.there t k i) : k ∈ (M.bx t.toNat).ks ∧ M.has k := by
  have ht := h.1
  have htn : t.toNat < M.n := by have := ht.1; have := ht.2; omega
  have hok := hN.ok _ htn
  have hk : k ∈ (M.bx t.toNat).ks := (hok.mem k).2 fun e => by have := h.2; rw [e] at this; simp at this; omega
  exact ⟨hk, (hok.src k hk).1, hN.src _ htn k hk⟩
theorem net_put {M : Msh} (h : Net M) {t : Nat} {k : Int} (hk0 : 0 ≤ k) (hk : k < M.n) {r : List (List UInt8)} (hr : r.length ≤ 8) (z : Int) : Net (M.put t { (M.bx t).set k r with last := z }) where
  ok i hi := by
    rw [put_bx]
    split
    · rename_i e
      subst e
      exact last_ok (set_ok (h.ok i hi) hk0 (by have := h.n64; omega) hr) z
    · exact h.ok i hi
  n64 := h.n64
  src i hi j hj := by
    rw [put_bx] at hj
    split at hj
    · rename_i e
      subst e
      have h2 := (set_mem (h.ok i hi) k r j).1 hj
      rw [row_set] at h2
      by_cases e2 : j = k
      · rw [e2]; exact hk
      · rw [if_neg e2] at h2
        exact h.src i hi j (((h.ok i hi).mem j).2 h2)
    · exact h.src i hi j hj
  l0 := h.l0
theorem net_put' {M : Msh} (h : Net M) {t : Nat} {k : Int} (hk0 : 0 ≤ k) (hk : k < M.n) {r : List (List UInt8)} (hr : r.length ≤ 8) : Net (M.put t ((M.bx t).set k r)) := net_put h hk0 hk hr _
theorem net_sendG {M : Msh} (h : Net M) (t : Nat) {k : Int} (hk0 : 0 ≤ k) (hk : k < M.n) (x : List UInt8) : Net (sendG M t k x) := by
  unfold sendG
  split
  · rename_i hc
    exact net_put' h hk0 hk (by rw [List.length_append]; simp; omega)
  · exact ⟨h.ok, h.n64, h.src, by have := h.l0; show 0 ≤ M.lost + 1; omega⟩
theorem net_sendX {M : Msh} (h : Net M) (t k : Int) (x : List UInt8) : Net (sendX M t k x) := by
  unfold sendX
  split
  · rename_i hc
    exact net_sendG h _ hc.2.1 hc.2.2 x
  · exact h
theorem net_castM {M : Msh} (h : Net M) {k : Int} (hk : M.has k) (x : List UInt8) (j : Nat) : Net (castM M k x j) ∧ (castM M k x j).n = M.n := by
  induction j with
  | zero => exact ⟨h, rfl⟩
  | succ j ih =>
    unfold castM
    split
    · exact ih
    · exact ⟨net_sendG ih.1 j hk.1 (by have := hk.2; have := ih.2; omega) x, by rw [sendG_n, ih.2]⟩
theorem net_castX {M : Msh} (h : Net M) (k : Int) (x : List UInt8) : Net (castX M k x) := by
  unfold castX
  split
  · rename_i hc
    exact (net_castM h hc x M.n).1
  · exact h
theorem eraseIdx_le {α : Type} (r : List α) (i : Nat) : (r.eraseIdx i).length ≤ r.length := by rw [List.length_eraseIdx]; split <;> omega
theorem net_dropX {M : Msh} (h : Net M) (t k i : Int) : Net (dropX M t k i) := by
  unfold dropX
  split
  · rename_i hc
    have hk := there_ks h hc
    refine net_put' h hk.2.1 hk.2.2 ?_
    have htn : t.toNat < M.n := by have := hc.1.1; have := hc.1.2; omega
    have := (h.ok _ htn).few k
    have := eraseIdx_le ((M.bx t.toNat).row k) i.toNat
    omega
  · exact h
theorem net_againX {M : Msh} (h : Net M) (t k i : Int) : Net (againX M t k i) := by
  unfold againX
  split
  · rename_i hc
    have hk := there_ks h hc
    exact net_sendG h _ hk.2.1 hk.2.2 _
  · exact h
theorem dropX_n (M : Msh) (t k i : Int) : (dropX M t k i).n = M.n := by unfold dropX; split <;> rfl
theorem net_lateX {M : Msh} (h : Net M) (t k i : Int) : Net (lateX M t k i) := by
  unfold lateX
  split
  · rename_i hc
    have hk := there_ks h hc
    exact net_sendG (net_dropX h t k i) _ hk.2.1 (by rw [dropX_n]; exact hk.2.2) _
  · exact h
theorem net_takeX {M : Msh} (h : Net M) (t : Int) : Net (takeX M t) := by
  unfold takeX
  split
  · rename_i hc
    have htn : t.toNat < M.n := by have := hc.1; have := hc.2; omega
    split
    · rename_i k hk
      have hin := nxt_mem hk
      refine net_put h ((h.ok _ htn).src k hin).1 (h.src _ htn k hin) ?_ k
      have := (h.ok _ htn).few k
      rw [List.length_tail]
      omega
    · exact h
  · exact h
end Go.Proofs.Ytbejifbiffeamaa
set_option linter.unusedSimpArgs false
set_option linter.unusedVariables false
namespace Go.Proofs.Ytbejifbiffeamaa
open Go.RowKit
attribute [local go_sem] extract_mid extract_drop bget bsize wrap64_u8 i64_u8 u64_u8 bappend
def netE (a : MA) (M : Msh) (f : Sls) : SProp := if M.n = 0 then msh0E a M.lost else meshE a M f
theorem netE_pos {a : MA} {M : Msh} {f : Sls} (h : 1 ≤ M.n) : netE a M f = meshE a M f := if_neg (by omega)
theorem netE_zero {a : MA} {M : Msh} {f : Sls} (h : M.n = 0) : netE a M f = msh0E a M.lost := if_pos h
theorem sendX_n (M : Msh) (t k : Int) (x : List UInt8) : (sendX M t k x).n = M.n := by unfold sendX; split; exact sendG_n _ _ _ _; rfl
theorem has_nat {M : Msh} {t : Int} (h : M.has t) : t = (t.toNat : Int) ∧ t.toNat < M.n ∧ 1 ≤ M.n := by have := h.1; have := h.2; omega
section
variable {a : MA} {M : Msh} {f : Sls} {l : List (Option Addr × List (List UInt8))} {L R1 R2 F : List SProp}
theorem newY {x : Int} (n : Nat) (hx : x = n) (h2 : n ≤ 64) (w : World) (hM : Star F w) :
    Calls Try.prog 15 #[.int .i64 x] w fun r w' => ∃ a f l, Hid (Tied (newM n) f l) ∧ r = .returned (mptr a) ∧ Star (netE a (newM n) f :: rowsE l :: F) w' := by
  by_cases h1 : 1 ≤ n
  · refine (new_ok n hx h1 h2 w hM).mono fun _ _ ⟨a, f, l, e1, e2, e3⟩ => ⟨a, f, l, e1, e2, ?_⟩
    rw [netE_pos (show 1 ≤ (newM n).n from h1)]
    exact e3
  · obtain rfl : n = 0 := by omega
    subst hx
    refine (new_0 w hM).mono fun _ _ ⟨a, e, h⟩ => ⟨a, fun _ _ => .slice none 0 0, [], ⟨fun i _ k hk => by cases hk⟩, e, ?_⟩
    rw [netE_zero (show (newM 0).n = 0 from rfl)]
    exact h.rows_nil.perm (List.Perm.swap _ _ _)
/-- No call changes a net without addresses. -/
theorem atNo_net {t : Int} (hh : ¬ M.has t) (L : List SProp) (hx : mshE a M.n M.lost ∈ L ∨ (M.n = 0 ∧ msh0E a M.lost ∈ L)) : atNo a t L := by
  rcases hx with hx | ⟨_, hx⟩
  · exact fun w hM => at_no t (by unfold Msh.has at hh; omega) w hM hx
  · exact at_0 t hx
/-- A net is opened, so that a call that changes nothing may look at it. -/
theorem quiet_net {f1 : FuncId} {args : Array Value} {v : Value} (h1 : ∀ (L : List SProp), (mshE a M.n M.lost ∈ L ∨ (M.n = 0 ∧ msh0E a M.lost ∈ L)) → ∀ w, Star L w → Calls Try.prog f1 args w fun r w' => r = .returned v ∧ Star L w') (w : World) (hM : Star (netE a M f :: rowsE l :: F) w) : Calls Try.prog f1 args w fun r w' => r = .returned v ∧ Star (netE a M f :: rowsE l :: F) w' := by
  by_cases h0 : M.n = 0
  · rw [netE_zero h0] at hM ⊢
    exact h1 _ (.inr ⟨h0, List.mem_cons_self⟩) w hM
  · have hp : 1 ≤ M.n := by omega
    rw [netE_pos hp] at hM ⊢
    refine (h1 _ (.inl ?_) w (hM.mopen2 (i := 0) hp)).mono fun _ _ ⟨e, h⟩ => ⟨e, h.mclose hp⟩
    exact List.mem_cons_of_mem _ List.mem_cons_self
theorem sendY (hN : Net M) (hT : Hid (Tied M f l)) (hl1 : M.lost ≤ 100000) {g : Nat} (t k : Int) (x : List UInt8) (w : World) (hM : Star L w) (hm1 : Take (rowE 1 (some ⟨g, 0, none⟩) 1 (ivs [t])) L R1) (hm2 : Take (netE a M f) R1 R2) (hm3 : Take (rowsE l) R2 F) :
    Calls Try.prog 17 #[mptr a, .int .i64 k, .string ⟨x.toArray⟩, .slice (some ⟨g, 0, none⟩) 1 1] w fun r w' => ∃ f' l', Hid (Tied (sendX M t k x) f' l') ∧ r = .returned (.int .i64 (sendXE M t k x)) ∧ Star (netE a (sendX M t k x) f' :: rowsE l' :: F) w' := by
  have h3 := hM.pull3 hm1 hm2 hm3
  by_cases hb : M.has t ∧ M.has k
  · obtain ⟨t1, t2, t3⟩ := has_nat hb.1
    obtain ⟨q1, q2, _⟩ := has_nat hb.2
    have e1 : sendX M t k x = sendG M t.toNat k x := if_pos hb
    have e2 : sendXE M t k x = sendE M t.toNat k x := if_pos hb
    rw [e1, e2]
    rw [netE_pos t3] at h3
    refine (send_any (hN.mok t3) hT.out t.toNat k.toNat t1 q1 t2 q2 x hN.l0 (by omega) w h3.send_sel).mono fun _ _ ⟨f', l', e3, e4, e5⟩ => ⟨f', l', e3, e4, ?_⟩
    rw [netE_pos (by rw [sendG_n]; exact t3)]
    exact e5
  · have e1 : sendX M t k x = M := if_neg hb
    have e2 : sendXE M t k x = 10 := if_neg hb
    rw [e1, e2]
    have h4 : Star (netE a M f :: rowsE l :: rowE 1 (some ⟨g, 0, none⟩) 1 (ivs [t]) :: F) w := h3.perm ((List.Perm.swap _ _ _).trans (List.Perm.cons _ (List.Perm.swap _ _ _)))
    have key : ∀ (L : List SProp), rowE 1 (some ⟨g, 0, none⟩) 1 (ivs [t]) ∈ L → (mshE a M.n M.lost ∈ L ∨ (M.n = 0 ∧ msh0E a M.lost ∈ L)) → ∀ w, Star L w → Calls Try.prog 17 #[mptr a, .int .i64 k, .string ⟨x.toArray⟩, .slice (some ⟨g, 0, none⟩) 1 1] w fun r w' => r = .returned (.int .i64 10) ∧ Star L w' := fun L hF hx w hM => by
      by_cases ht : M.has t
      · obtain ⟨t1, t2, t3⟩ := has_nat ht
        rcases hx with hx | ⟨h0, _⟩
        · exact send_arg2 (t := t.toNat) x (fun w hM => at_yes t.toNat t1 t2 w hM hx) (atNo_net (fun hk => hb ⟨ht, hk⟩) L (.inl hx)) w hM hF
        · omega
      · exact send_arg1 x (atNo_net ht L hx) w hM hF
    by_cases h0 : M.n = 0
    · rw [netE_zero h0] at h4
      exact (key _ (List.mem_cons_of_mem _ (List.mem_cons_of_mem _ List.mem_cons_self)) (.inr ⟨h0, List.mem_cons_self⟩) w h4).mono fun _ _ ⟨e, h⟩ => ⟨f, l, hT, e, by rw [netE_zero h0]; exact h.sel (by repeat (first | (with_reducible exact Sel.refl) | (with_reducible exact Take.head) | (with_reducible apply Take.tail) | (with_reducible apply Sel.cons) | (with_reducible apply Sel.drop)))⟩
    · have hp : 1 ≤ M.n := by omega
      rw [netE_pos hp] at h4
      refine (key _ ?_ (.inl ?_) w (h4.mopen2 (i := 0) hp)).mono fun _ _ ⟨e, h⟩ => ⟨f, l, hT, e, by rw [netE_pos hp]; exact (h.mclose hp).sel (by repeat (first | (with_reducible exact Sel.refl) | (with_reducible exact Take.head) | (with_reducible apply Take.tail) | (with_reducible apply Sel.cons) | (with_reducible apply Sel.drop)))⟩
      · exact List.mem_cons_of_mem _ (List.mem_cons_of_mem _ (List.mem_cons_of_mem _ (List.mem_cons_of_mem _ (List.mem_append.2 (.inr List.mem_cons_self)))))
      · exact List.mem_cons_of_mem _ List.mem_cons_self
theorem takeY (hN : Net M) (hT : Hid (Tied M f l)) (t : Int) (w : World) (hM : Star L w) (hm1 : Take (netE a M f) L R1) (hm2 : Take (rowsE l) R1 F) :
    Calls Try.prog 18 #[mptr a, .int .i64 t] w fun e w' => ∃ f' l', Hid (Tied (takeX M t) f' l') ∧ e = .returned (.tuple #[pktV (takeP M t).1 (takeP M t).2.1, .bool (takeP M t).2.2]) ∧ Star (netE a (takeX M t) f' :: rowsE l' :: F) w' := by
  have h3 := hM.pull2 hm1 hm2
  by_cases hb : M.has t
  · obtain ⟨t1, t2, t3⟩ := has_nat hb
    rw [netE_pos t3] at h3
    cases hn : (M.bx t.toNat).nxt with
    | none =>
      have e1 : takeX M t = M := by unfold takeX; rw [if_pos hb, hn]
      have e2 : takeP M t = (0, [], false) := by unfold takeP; rw [if_pos hb, hn]
      rw [e1, e2]
      exact (take_none (hN.mok t3) t.toNat t1 t2 hn w h3).mono fun _ _ ⟨e, h⟩ => ⟨f, l, hT, e, by rw [netE_pos t3]; exact h⟩
    | some k =>
      have hin := nxt_mem hn
      obtain ⟨x, r, hr⟩ := List.exists_cons_of_ne_nil (((hN.ok _ t2).mem k).1 hin)
      have e1 : takeX M t = takeM M t.toNat k r := by unfold takeX; rw [if_pos hb, hn]; simp only [hr, List.tail_cons]
      have e2 : takeP M t = (k, x, true) := by unfold takeP; rw [if_pos hb, hn]; simp only [hr, List.headD_cons]
      rw [e1, e2]
      refine (take_ok (hN.mok t3) hT.out t.toNat t1 t2 hn hr w h3).mono fun _ _ ⟨f', l', e3, e4, e5⟩ => ⟨f', l', e3, e4, ?_⟩
      rw [netE_pos (show 1 ≤ (takeM M t.toNat k r).n from t3)]
      exact e5
  · have e1 : takeX M t = M := if_neg hb
    have e2 : takeP M t = (0, [], false) := if_neg hb
    rw [e1, e2]
    refine (quiet_net (fun L hx w hM => take_out (fun g => atNo_net hb _ ?_) w hM) w h3).mono fun _ _ ⟨e, h⟩ => ⟨f, l, hT, e, h⟩
    rcases hx with hx | ⟨h0, hx⟩
    · exact .inl (List.mem_cons_of_mem _ hx)
    · exact .inr ⟨h0, List.mem_cons_of_mem _ hx⟩
theorem waitsY (hN : Net M) (hT : Hid (Tied M f l)) (t k : Int) (k1 : -9223372036854775808 ≤ k) (k2 : k ≤ 9223372036854775807) (w : World) (hM : Star L w) (hm1 : Take (netE a M f) L R1) (hm2 : Take (rowsE l) R1 F) :
    Calls Try.prog 27 #[mptr a, .int .i64 t, .int .i64 k] w fun e w' => e = .returned (.int .i64 (waitsX M t k : Nat)) ∧ Star (netE a M f :: rowsE l :: F) w' := by
  have h3 := hM.pull2 hm1 hm2
  by_cases hb : M.has t
  · obtain ⟨t1, t2, t3⟩ := has_nat hb
    have e1 : waitsX M t k = ((M.bx t.toNat).row k).length := if_pos hb
    rw [e1]
    rw [netE_pos t3] at h3 ⊢
    exact waits_ok (hN.mok t3) hT.out t.toNat t1 t2 k1 k2 w h3
  · have e1 : waitsX M t k = 0 := if_neg hb
    rw [e1]
    exact quiet_net (fun L hx w hM => waits_out (atNo_net hb L hx) w hM) w h3
theorem allY (hN : Net M) (hT : Hid (Tied M f l)) (w : World) (hM : Star L w) (hm1 : Take (netE a M f) L R1) (hm2 : Take (rowsE l) R1 F) :
    Calls Try.prog 31 #[mptr a] w fun e w' => e = .returned (.int .i64 (allM M M.n : Nat)) ∧ Star (netE a M f :: rowsE l :: F) w' := by
  have h3 := hM.pull2 hm1 hm2
  by_cases h0 : M.n = 0
  · have e : allM M M.n = 0 := by rw [h0]; rfl
    rw [e]
    rw [netE_zero h0] at h3 ⊢
    exact all_0 List.mem_cons_self w h3
  · have hp : 1 ≤ M.n := by omega
    rw [netE_pos hp] at h3 ⊢
    exact all_ok (hN.mok hp) hT.out w h3
theorem lostY (w : World) (hM : Star L w) (hm1 : Take (netE a M f) L R1) (hm2 : Take (rowsE l) R1 F) :
    Calls Try.prog 32 #[mptr a] w fun e w' => e = .returned (.int .i64 M.lost) ∧ Star (netE a M f :: rowsE l :: F) w' :=
  quiet_net (fun L hx w hM => by
    rcases hx with hx | ⟨_, hx⟩
    · exact lost_ok w hM hx
    · exact lost_0 hx w hM) w (hM.pull2 hm1 hm2)
theorem castY (hN : Net M) (hT : Hid (Tied M f l)) (hl1 : M.lost ≤ 100000) (k : Int) (x : List UInt8) (w : World) (hM : Star L w) (hm1 : Take (netE a M f) L R1) (hm2 : Take (rowsE l) R1 F) :
    Calls Try.prog 30 #[mptr a, .int .i64 k, .string ⟨x.toArray⟩] w fun r w' => ∃ f' l', Hid (Tied (castX M k x) f' l') ∧ r = .returned (.tuple #[]) ∧ Star (netE a (castX M k x) f' :: rowsE l' :: F) w' := by
  have h3 := hM.pull2 hm1 hm2
  by_cases hb : M.has k
  · obtain ⟨t1, t2, t3⟩ := has_nat hb
    have e1 : castX M k x = castM M k x M.n := if_pos hb
    rw [e1]
    rw [netE_pos t3] at h3
    refine (cast_ok (hN.mok t3) hT.out k.toNat t1 t2 x hN.l0 (by omega) w h3).mono fun _ _ ⟨f', l', e3, e4, e5⟩ => ⟨f', l', e3, e4, ?_⟩
    rw [netE_pos (by rw [(net_castM hN hb x M.n).2]; exact t3)]
    exact e5
  · have e1 : castX M k x = M := if_neg hb
    rw [e1]
    refine (quiet_net (fun L hx w hM => ?_) w h3).mono fun _ _ ⟨e, h⟩ => ⟨f, l, hT, e, h⟩
    rcases hx with hx | ⟨_, hx⟩
    · exact cast_bad hN.n64 (by unfold Msh.has at hb; omega) x hx w hM
    · exact cast_0 k x hx w hM
theorem pickNo_net {t k i : Int} (hN : Net M) (hT : Hid (Tied M f l)) (k1 : -9223372036854775808 ≤ k) (k2 : k ≤ 9223372036854775807) (hb : ¬ M.there t k i) : pickNo a t k i (netE a M f :: rowsE l :: F) := fun w h3 => by
  by_cases ht : M.has t
  · obtain ⟨t1, t2, t3⟩ := has_nat ht
    rw [netE_pos t3] at h3 ⊢
    exact pick_no (hN.mok t3) hT.out t.toNat t1 t2 k1 k2 (by unfold Msh.there at hb; by_cases h : i < 0; exact .inl h; right; by_cases h2 : i < (((M.bx t.toNat).row k).length : Int); exact absurd ⟨ht, by omega, h2⟩ hb; omega) w h3
  · exact quiet_net (fun L hx w hM => pick_out0 (atNo_net ht L hx) w hM) w h3
theorem dropY (hN : Net M) (hT : Hid (Tied M f l)) (t k i : Int) (k1 : -9223372036854775808 ≤ k) (k2 : k ≤ 9223372036854775807) (w : World) (hM : Star L w) (hm1 : Take (netE a M f) L R1) (hm2 : Take (rowsE l) R1 F) :
    Calls Try.prog 66 #[mptr a, .int .i64 t, .int .i64 k, .int .i64 i] w fun e w' => ∃ f' l', Hid (Tied (dropX M t k i) f' l') ∧ e = .returned (.bool (decide (M.there t k i))) ∧ Star (netE a (dropX M t k i) f' :: rowsE l' :: F) w' := by
  have h3 := hM.pull2 hm1 hm2
  by_cases hb : M.there t k i
  · obtain ⟨t1, t2, t3⟩ := has_nat hb.1
    have e1 : dropX M t k i = M.put t.toNat ((M.bx t.toNat).set k (((M.bx t.toNat).row k).eraseIdx i.toNat)) := if_pos hb
    rw [e1, decide_eq_true hb]
    rw [netE_pos t3] at h3
    refine (drop_ok (hN.mok t3) hT.out t.toNat i.toNat t1 t2 (by have := hb.2; omega) (text_at hb) w h3).mono fun _ _ ⟨f', l', e3, e4, e5⟩ => ⟨f', l', e3, e4, ?_⟩
    rw [netE_pos (show 1 ≤ (M.put _ _).n from t3)]
    exact e5
  · have e1 : dropX M t k i = M := if_neg hb
    rw [e1, decide_eq_false hb]
    exact (drop_not (pickNo_net hN hT k1 k2 hb) w h3).mono fun _ _ ⟨e, h⟩ => ⟨f, l, hT, e, h⟩
theorem againY (hN : Net M) (hT : Hid (Tied M f l)) (hl1 : M.lost ≤ 100000) (t k i : Int) (k1 : -9223372036854775808 ≤ k) (k2 : k ≤ 9223372036854775807) (w : World) (hM : Star L w) (hm1 : Take (netE a M f) L R1) (hm2 : Take (rowsE l) R1 F) :
    Calls Try.prog 68 #[mptr a, .int .i64 t, .int .i64 k, .int .i64 i] w fun e w' => ∃ f' l', Hid (Tied (againX M t k i) f' l') ∧ e = .returned (.bool (againE M t k i)) ∧ Star (netE a (againX M t k i) f' :: rowsE l' :: F) w' := by
  have h3 := hM.pull2 hm1 hm2
  by_cases hb : M.there t k i
  · obtain ⟨t1, t2, t3⟩ := has_nat hb.1
    obtain ⟨q1, q2, _⟩ := has_nat (there_ks hN hb).2
    have e1 : againX M t k i = sendG M t.toNat k (M.text t k i) := if_pos hb
    have e2 : againE M t k i = (sendE M t.toNat k (M.text t k i) == 0) := if_pos hb
    rw [e1, e2]
    rw [netE_pos t3] at h3
    refine (again_ok (hN.mok t3) hT.out t.toNat k.toNat i.toNat t1 t2 q1 q2 (by have := hb.2; omega) (text_at hb) hN.l0 (by omega) w h3).mono fun _ _ ⟨f', l', e3, e4, e5⟩ => ⟨f', l', e3, e4, ?_⟩
    rw [netE_pos (by rw [sendG_n]; exact t3)]
    exact e5
  · have e1 : againX M t k i = M := if_neg hb
    have e2 : againE M t k i = false := if_neg hb
    rw [e1, e2]
    exact (again_not (pickNo_net hN hT k1 k2 hb) w h3).mono fun _ _ ⟨e, h⟩ => ⟨f, l, hT, e, h⟩
theorem lateY (hN : Net M) (hT : Hid (Tied M f l)) (hl1 : M.lost ≤ 100000) (t k i : Int) (k1 : -9223372036854775808 ≤ k) (k2 : k ≤ 9223372036854775807) (w : World) (hM : Star L w) (hm1 : Take (netE a M f) L R1) (hm2 : Take (rowsE l) R1 F) :
    Calls Try.prog 69 #[mptr a, .int .i64 t, .int .i64 k, .int .i64 i] w fun e w' => ∃ f' l', Hid (Tied (lateX M t k i) f' l') ∧ e = .returned (.bool (lateE M t k i)) ∧ Star (netE a (lateX M t k i) f' :: rowsE l' :: F) w' := by
  have h3 := hM.pull2 hm1 hm2
  by_cases hb : M.there t k i
  · obtain ⟨t1, t2, t3⟩ := has_nat hb.1
    obtain ⟨q1, q2, _⟩ := has_nat (there_ks hN hb).2
    have e0 : M.put t.toNat ((M.bx t.toNat).set k (((M.bx t.toNat).row k).eraseIdx i.toNat)) = dropX M t k i := (if_pos hb).symm
    have e1 : lateX M t k i = sendG (dropX M t k i) t.toNat k (M.text t k i) := if_pos hb
    have e2 : lateE M t k i = (sendE (dropX M t k i) t.toNat k (M.text t k i) == 0) := if_pos hb
    rw [e1, e2]
    rw [netE_pos t3] at h3
    refine (late_ok (hN.mok t3) hT.out t.toNat k.toNat i.toNat t1 t2 q1 q2 (by have := hb.2; omega) (text_at hb) hN.l0 (by omega) e0 ((net_dropX hN t k i).mok (by rw [dropX_n]; exact t3)) w h3).mono fun _ _ ⟨f', l', e3, e4, e5⟩ => ⟨f', l', e3, e4, ?_⟩
    rw [netE_pos (by rw [sendG_n, dropX_n]; exact t3)]
    exact e5
  · have e1 : lateX M t k i = M := if_neg hb
    have e2 : lateE M t k i = false := if_neg hb
    rw [e1, e2]
    exact (late_not (pickNo_net hN hT k1 k2 hb) w h3).mono fun _ _ ⟨e, h⟩ => ⟨f, l, hT, e, h⟩
end
end Go.Proofs.Ytbejifbiffeamaa
set_option linter.unusedSimpArgs false
set_option linter.unusedVariables false
namespace Go.Proofs.Ytbejifbiffeamaa
open Go.RowKit
/-- What waits of a source at an address. -/
def rowOf (t k : Int) : List RP → List (List UInt8)
  | [] => []
  | p :: l => if rmine t k p then p.2.2 :: rowOf t k l else rowOf t k l
theorem rmine_iff {t k : Int} {p : RP} : rmine t k p = true ↔ p.1 = t ∧ p.2.1 = k := by unfold rmine; simp
theorem rcount_row (t k : Int) (l : List RP) : rcount t k l = (rowOf t k l).length := by
  induction l with
  | nil => rfl
  | cons p l ih =>
    unfold rcount rowOf
    split
    · rw [ih]; rfl
    · rw [ih]; rfl
theorem rowOf_app (t k : Int) (a b : List RP) : rowOf t k (a ++ b) = rowOf t k a ++ rowOf t k b := by
  induction a with
  | nil => rfl
  | cons p l ih =>
    rw [List.cons_append]
    show (if rmine t k p then p.2.2 :: rowOf t k (l ++ b) else rowOf t k (l ++ b)) = (if rmine t k p then p.2.2 :: rowOf t k l else rowOf t k l) ++ rowOf t k b
    split
    · rw [ih]; rfl
    · exact ih
theorem rfind_out {t k : Int} : ∀ (l : List RP) (i j : Nat), (rowOf t k l).length ≤ i → rfind t k i j l = -1
  | [], _, _, _ => rfl
  | p :: l, i, j, h => by
    unfold rfind
    unfold rowOf at h
    split
    · rename_i hm
      rw [if_pos hm, List.length_cons] at h
      rw [if_neg (by omega)]
      have := rfind_out (t := t) (k := k) l (i - 1) (j + 1) (by omega)
      have e : ((i - 1 : Nat) : Int) = (i : Int) - 1 := by omega
      rwa [e] at this
    · rename_i hm
      rw [if_neg hm] at h
      exact rfind_out l i (j + 1) h
/-- Where the i-th lies; without it. -/
theorem rfind_in {t k : Int} : ∀ (l : List RP) (i j : Nat), i < (rowOf t k l).length → ∃ (q : Nat) (p : RP), rfind t k i j l = ((j + q : Nat) : Int) ∧ l[q]? = some p ∧ p.1 = t ∧ p.2.1 = k ∧ (rowOf t k l)[i]? = some p.2.2 ∧ ∀ t' k', rowOf t' k' (l.eraseIdx q) = if t' = t ∧ k' = k then (rowOf t k l).eraseIdx i else rowOf t' k' l
  | [], i, j, h => by simp [rowOf] at h
  | p :: l, i, j, h => by
    unfold rfind
    by_cases hm : rmine t k p = true
    · have hmp := rmine_iff.1 hm
      have er : rowOf t k (p :: l) = p.2.2 :: rowOf t k l := by show (if rmine t k p then _ else _) = _; rw [if_pos hm]
      rw [er] at h ⊢
      rw [if_pos hm]
      cases i with
      | zero =>
        rw [if_pos (by rfl)]
        refine ⟨0, p, by simp, rfl, hmp.1, hmp.2, rfl, fun t' k' => ?_⟩
        rw [List.eraseIdx_cons_zero, List.eraseIdx_cons_zero]
        split
        · rename_i e; rw [e.1, e.2]
        · rename_i e
          show _ = (if rmine t' k' p then _ else _)
          rw [if_neg (fun hh => e (by have := rmine_iff.1 hh; exact ⟨by omega, by omega⟩))]
      | succ i =>
        rw [if_neg (by omega)]
        rw [List.length_cons] at h
        obtain ⟨q, p', h1, h2, h3, h4, h5, h6⟩ := rfind_in l i (j + 1) (show i < (rowOf t k l).length by omega)
        have e : ((i + 1 : Nat) : Int) - 1 = (i : Int) := by omega
        refine ⟨q + 1, p', by rw [e, h1]; congr 1; omega, h2, h3, h4, h5, fun t' k' => ?_⟩
        rw [List.eraseIdx_cons_succ, List.eraseIdx_cons_succ]
        show (if rmine t' k' p then p.2.2 :: rowOf t' k' (l.eraseIdx q) else rowOf t' k' (l.eraseIdx q)) = if t' = t ∧ k' = k then _ else (if rmine t' k' p then p.2.2 :: rowOf t' k' l else rowOf t' k' l)
        rw [h6]
        by_cases e2 : t' = t ∧ k' = k
        · rw [if_pos e2, if_pos e2, e2.1, e2.2, if_pos hm]
        · rw [if_neg e2, if_neg e2]
    · have er : rowOf t k (p :: l) = rowOf t k l := by show (if rmine t k p then _ else _) = _; rw [if_neg hm]
      rw [er] at h ⊢
      rw [if_neg hm]
      obtain ⟨q, p', h1, h2, h3, h4, h5, h6⟩ := rfind_in l i (j + 1) h
      refine ⟨q + 1, p', by rw [h1]; congr 1; omega, h2, h3, h4, h5, fun t' k' => ?_⟩
      rw [List.eraseIdx_cons_succ]
      show (if rmine t' k' p then p.2.2 :: rowOf t' k' (l.eraseIdx q) else rowOf t' k' (l.eraseIdx q)) = if t' = t ∧ k' = k then _ else (if rmine t' k' p then p.2.2 :: rowOf t' k' l else rowOf t' k' l)
      rw [h6]
      by_cases e2 : t' = t ∧ k' = k
      · rw [if_pos e2, if_pos e2, e2.1, e2.2, if_neg hm]
      · rw [if_neg e2, if_neg e2]
/-- The reference's net. -/
structure RM where
  L : List RP
  la : List Int
  lo : Int
structure Rel (M : Msh) (X : RM) : Prop where
  la : X.la.length = M.n
  at_ : ∀ i : Nat, i < M.n → X.la[i]? = some (M.bx i).last
  lo : X.lo = M.lost
  row : ∀ i : Nat, i < M.n → ∀ k, (M.bx i).row k = rowOf i k X.L
  ok : ∀ p ∈ X.L, M.has p.1 ∧ M.has p.2.1
def RM.has (X : RM) (i : Int) : Prop := 0 ≤ i ∧ i < (X.la.length : Int)
instance (X : RM) (i : Int) : Decidable (X.has i) := inferInstanceAs (Decidable (_ ∧ _))
theorem Rel.has_iff {M : Msh} {X : RM} (h : Rel M X) (i : Int) : X.has i ↔ M.has i := by unfold RM.has Msh.has; rw [h.la]
def rsend (X : RM) (k : Int) (x : List UInt8) (t : Int) : RM := if X.has t ∧ X.has k then (if x.length ≤ 1024 ∧ rcount t k X.L < 8 then { X with L := X.L ++ [(t, k, x)] } else { X with lo := X.lo + 1 }) else X
def rsendE (X : RM) (k : Int) (x : List UInt8) (t : Int) : Int := if X.has t ∧ X.has k then (if x.length ≤ 1024 then (if rcount t k X.L < 8 then 0 else 14) else 5) else 10
theorem rel_new (n : Nat) : Rel (newM n) ⟨[], List.replicate n (-1), 0⟩ := ⟨by simp [newM], fun i hi => by rw [List.getElem?_replicate, if_pos (show i < n from hi)]; rfl, rfl, fun _ _ _ => rfl, fun p hp => by cases hp⟩
theorem rel_lost {M : Msh} {X : RM} (h : Rel M X) : Rel { M with lost := M.lost + 1 } { X with lo := X.lo + 1 } := ⟨h.la, h.at_, by show X.lo + 1 = M.lost + 1; rw [h.lo], h.row, h.ok⟩
theorem rel_put {M : Msh} {X : RM} (h : Rel M X) {t : Nat} {k : Int} (ht : t < M.n) {r : List (List UInt8)} {L2 : List RP} (hr : ∀ t' k', rowOf t' k' L2 = if t' = (t : Int) ∧ k' = k then r else rowOf t' k' X.L) (hok : ∀ p ∈ L2, M.has p.1 ∧ M.has p.2.1) : Rel (M.put t ((M.bx t).set k r)) { X with L := L2 } where
  la := h.la
  at_ i hi := by
    rw [put_bx]
    split
    · rename_i e; subst e; exact h.at_ i hi
    · exact h.at_ i hi
  lo := h.lo
  row i hi k' := by
    rw [put_bx]
    show _ = rowOf i k' L2
    rw [hr]
    by_cases e : i = t
    · subst e
      rw [if_pos rfl, row_set]
      by_cases e2 : k' = k
      · rw [if_pos e2, if_pos ⟨rfl, e2⟩]
      · rw [if_neg e2, if_neg (fun hh => e2 hh.2)]
        exact h.row i hi k'
    · rw [if_neg e, if_neg (fun hh => e (by have := hh.1; omega))]
      exact h.row i hi k'
  ok := hok
theorem rel_send {M : Msh} {X : RM} (h : Rel M X) (k : Int) (x : List UInt8) (t : Int) : Rel (sendX M t k x) (rsend X k x t) ∧ rsendE X k x t = sendXE M t k x := by
  by_cases hb : M.has t ∧ M.has k
  · have hX : X.has t ∧ X.has k := ⟨(h.has_iff t).2 hb.1, (h.has_iff k).2 hb.2⟩
    obtain ⟨t1, t2, _⟩ := has_nat hb.1
    have hrc : rcount t k X.L = ((M.bx t.toNat).row k).length := by rw [rcount_row, h.row _ t2, ← t1]
    unfold sendX sendXE rsend rsendE
    rw [if_pos hb, if_pos hb, if_pos hX, if_pos hX]
    refine ⟨?_, by unfold sendE; rw [hrc]⟩
    unfold sendG
    rw [hrc]
    split
    · refine rel_put h t2 (fun t' k' => ?_) (fun p hp => ?_)
      · rw [rowOf_app, ← t1]
        show rowOf t' k' X.L ++ (if rmine t' k' (t, k, x) then [x] else []) = _
        by_cases e : t' = t ∧ k' = k
        · rw [if_pos e, if_pos (rmine_iff.2 ⟨e.1.symm, e.2.symm⟩), h.row _ t2, ← t1, e.1, e.2]
        · rw [if_neg e, if_neg (fun hh => e ⟨(rmine_iff.1 hh).1.symm, (rmine_iff.1 hh).2.symm⟩), List.append_nil]
      · rcases List.mem_append.1 hp with hp | hp
        · exact h.ok p hp
        · rw [List.mem_singleton.1 hp]; exact hb
    · exact rel_lost h
  · have hX : ¬ (X.has t ∧ X.has k) := fun hh => hb ⟨(h.has_iff t).1 hh.1, (h.has_iff k).1 hh.2⟩
    unfold sendX sendXE rsend rsendE
    rw [if_neg hb, if_neg hb, if_neg hX, if_neg hX]
    exact ⟨h, rfl⟩
def rdrop (X : RM) (t k i : Int) : RM := if 0 ≤ i ∧ 0 ≤ rfind t k i 0 X.L then { X with L := X.L.eraseIdx (rfind t k i 0 X.L).toNat } else X
/-- The reference finds just what is there. -/
theorem rel_find {M : Msh} {X : RM} (h : Rel M X) (t k i : Int) (hi : 0 ≤ i) : (0 ≤ rfind t k i 0 X.L ↔ M.there t k i) := by
  by_cases ht : M.has t
  · obtain ⟨t1, t2, _⟩ := has_nat ht
    have hrow : ((M.bx t.toNat).row k).length = (rowOf t k X.L).length := by rw [h.row _ t2, ← t1]
    have ei : i = (i.toNat : Int) := by omega
    by_cases hl : i.toNat < (rowOf t k X.L).length
    · obtain ⟨q, p, h1, _⟩ := rfind_in X.L i.toNat 0 hl
      rw [← ei] at h1
      rw [h1]
      exact ⟨fun _ => ⟨ht, hi, by rw [hrow]; omega⟩, fun _ => by omega⟩
    · have h1 := rfind_out (t := t) (k := k) X.L i.toNat 0 (by omega)
      rw [← ei] at h1
      rw [h1]
      exact ⟨fun hh => by omega, fun hh => by have := hh.2.2; rw [hrow] at this; omega⟩
  · have h0 : rowOf t k X.L = [] := by
      have hL := h.ok
      generalize X.L = l at hL
      induction l with
      | nil => rfl
      | cons p l ih =>
        have e : rmine t k p = false := by
          by_cases hm : rmine t k p = true
          · have := (hL p List.mem_cons_self).1
            rw [(rmine_iff.1 hm).1] at this
            exact absurd this ht
          · simpa using hm
        show (if rmine t k p then _ else rowOf t k l) = []
        rw [e, if_neg (by decide)]
        exact ih fun p hp => hL p (List.mem_cons_of_mem _ hp)
    have h1 := rfind_out (t := t) (k := k) X.L i.toNat 0 (by rw [h0]; exact Nat.zero_le _)
    have ei : i = (i.toNat : Int) := by omega
    rw [← ei] at h1
    rw [h1]
    exact ⟨fun hh => by omega, fun hh => absurd hh.1 ht⟩
theorem rel_drop {M : Msh} {X : RM} (h : Rel M X) (t k i : Int) : Rel (dropX M t k i) (rdrop X t k i) := by
  unfold dropX rdrop
  by_cases hb : M.there t k i
  · have hi := hb.2.1
    have hf := (rel_find h t k i hi).2 hb
    obtain ⟨t1, t2, _⟩ := has_nat hb.1
    have hrow : (M.bx t.toNat).row k = rowOf t k X.L := by rw [h.row _ t2, ← t1]
    have ei : i = (i.toNat : Int) := by omega
    have hl : i.toNat < (rowOf t k X.L).length := by have := hb.2.2; rw [hrow] at this; omega
    obtain ⟨q, p, h1, _, _, _, _, h6⟩ := rfind_in X.L i.toNat 0 hl
    rw [← ei, Nat.zero_add] at h1
    rw [if_pos hb, if_pos ⟨hi, hf⟩, h1, hrow, Int.toNat_natCast]
    refine rel_put h t2 (fun t' k' => ?_) (fun p hp => h.ok p (List.mem_of_mem_eraseIdx hp))
    rw [h6, ← t1]
  · rw [if_neg hb, if_neg (fun hh => hb ((rel_find h t k i hh.1).1 hh.2))]
    exact h
end Go.Proofs.Ytbejifbiffeamaa
set_option linter.unusedSimpArgs false
set_option linter.unusedVariables false
namespace Go.Proofs.Ytbejifbiffeamaa
open Go.RowKit
theorem rel_ks {M : Msh} (hN : Net M) {X : RM} (h : Rel M X) {tn : Nat} (ht : tn < M.n) (q : Nat) : 0 ≤ rfind tn q 0 0 X.L ↔ (q : Int) ∈ (M.bx tn).ks := by
  rw [rel_find h tn q 0 (Int.le_refl 0), (hN.ok tn ht).mem]
  unfold Msh.there
  rw [Int.toNat_natCast]
  constructor
  · intro hh e
    have := hh.2.2
    rw [e] at this
    simp at this
  · intro hh
    exact ⟨⟨by omega, by omega⟩, Int.le_refl 0, by have := List.length_pos_iff.2 hh; omega⟩
theorem ks_nat {M : Msh} (hN : Net M) {tn : Nat} (ht : tn < M.n) {k : Int} (hk : k ∈ (M.bx tn).ks) : ∃ q : Nat, k = q ∧ q < M.n := by
  have h1 := ((hN.ok tn ht).src k hk).1
  have h2 := hN.src tn ht k hk
  exact ⟨k.toNat, by omega, by omega⟩
theorem rel_take_none {M : Msh} (hN : Net M) {X : RM} (h : Rel M X) {tn : Nat} (ht : tn < M.n) {z : Int} (hno : ∀ q : Nat, q < M.n → ¬ rhit X.L tn z 1 q) : takeX M tn = M ∧ takeP M tn = (0, [], false) := by
  have hb : M.has (tn : Int) := ⟨by omega, by omega⟩
  have hks : (M.bx tn).ks = [] := by
    cases hk : (M.bx tn).ks with
    | nil => rfl
    | cons k l =>
      have hin : k ∈ (M.bx tn).ks := by rw [hk]; exact List.mem_cons_self
      obtain ⟨q, e, hq⟩ := ks_nat hN ht hin
      subst e
      exact absurd ⟨(rel_ks hN h ht q).2 hin, .inl rfl⟩ (hno q hq)
  have hn := nxt_of_nil hks
  constructor
  · unfold takeX; rw [if_pos hb, Int.toNat_natCast, hn]
  · unfold takeP; rw [if_pos hb, Int.toNat_natCast, hn]
theorem rel_take_some {M : Msh} (hN : Net M) {X : RM} (h : Rel M X) {tn : Nat} (ht : tn < M.n) {T q j : Nat} {p : RP} (hT : T < 2) (hq : q < M.n) (hh : rhit X.L tn (M.bx tn).last T q) (h1 : ∀ q' : Nat, q' < q → ¬ rhit X.L tn (M.bx tn).last T q') (h2 : T = 1 → ∀ q' : Nat, q' < M.n → ¬ rhit X.L tn (M.bx tn).last 0 q') (hj : rfind tn q 0 0 X.L = j) (hp : X.L[j]? = some p) :
    takeP M tn = ((q : Int), p.2.2, true) ∧ Rel (takeX M tn) ⟨X.L.eraseIdx j, X.la.set tn q, X.lo⟩ := by
  have hb : M.has (tn : Int) := ⟨by omega, by omega⟩
  have hok := hN.ok tn ht
  have hin := (rel_ks hN h ht q).1 hh.1
  have hnx : (M.bx tn).nxt = some (q : Int) := by
    cases hn : (M.bx tn).nxt with
    | none => rw [nxt_none hn] at hin; cases hin
    | some k =>
      have hk := nxt_mem hn
      obtain ⟨r, e, hr⟩ := ks_nat hN ht hk
      subst e
      congr 1
      have hkf := (rel_ks hN h ht r).2 hk
      rcases (by omega : T = 0 ∨ T = 1) with rfl | rfl
      · have hz : (M.bx tn).last < (q : Int) := by rcases hh.2 with e | e; cases e; exact e
        rcases nxt_spec hok hn with ⟨a, b⟩ | ⟨a, b⟩
        · have h3 := b q hin hz
          by_cases hrq : r < q
          · exact absurd ⟨hkf, .inr a⟩ (h1 r hrq)
          · omega
        · have := a q hin
          omega
      · have hno := h2 rfl
        rcases nxt_spec hok hn with ⟨a, b⟩ | ⟨a, b⟩
        · exact absurd ⟨hkf, .inr a⟩ (hno r hr)
        · have h3 := b q hin
          by_cases hrq : r < q
          · exact absurd ⟨hkf, .inl rfl⟩ (h1 r hrq)
          · omega
  have hrow : (M.bx tn).row q = rowOf tn q X.L := h.row tn ht q
  have hl : 0 < (rowOf tn q X.L).length := by rw [← hrow]; exact List.length_pos_iff.2 ((hok.mem q).1 hin)
  obtain ⟨j', p', e1, e2, e3, e4, e5, e6⟩ := rfind_in X.L 0 0 hl
  have ej : j' = j := by
    have e1' : rfind tn q 0 0 X.L = ((0 + j' : Nat) : Int) := e1
    rw [hj] at e1'
    omega
  subst ej
  rw [hp] at e2
  injection e2 with e2
  subst e2
  have hr0 : ∃ r, rowOf tn q X.L = p.2.2 :: r := by
    cases hc : rowOf tn q X.L with
    | nil => rw [hc] at hl; simp at hl
    | cons x r =>
      rw [hc] at e5
      injection e5 with e5
      exact ⟨r, by rw [e5]⟩
  obtain ⟨r, hr⟩ := hr0
  have etX : takeX M tn = takeM M tn q r := by
    unfold takeX
    rw [if_pos hb, Int.toNat_natCast, hnx]
    simp only [hrow, hr, List.tail_cons]
  constructor
  · unfold takeP
    rw [if_pos hb, Int.toNat_natCast, hnx]
    simp only [hrow, hr, List.headD_cons]
  · rw [etX]
    have hput := rel_put (k := (q : Int)) h ht (r := r) (L2 := X.L.eraseIdx j') (fun t' k' => by rw [e6, hr]; rfl) (fun p hp => h.ok p (List.mem_of_mem_eraseIdx hp))
    refine ⟨by show (X.la.set tn q).length = M.n; rw [List.length_set, h.la], fun i hi => ?_, h.lo, fun i hi k => ?_, hput.ok⟩
    · show (X.la.set tn q)[i]? = some ((takeM M tn q r).bx i).last
      unfold takeM
      rw [put_bx, List.getElem?_set]
      by_cases e : i = tn
      · subst e
        rw [if_pos rfl, if_pos rfl, if_pos (by rw [h.la]; exact ht)]
      · rw [if_neg (fun hh => e hh.symm), if_neg e]
        exact h.at_ i hi
    · have h3 := hput.row i hi k
      unfold takeM
      rw [put_bx]
      rw [put_bx] at h3
      split
      · rename_i e
        rw [if_pos e] at h3
        exact h3
      · rename_i e
        rw [if_neg e] at h3
        exact h3
end Go.Proofs.Ytbejifbiffeamaa
set_option linter.unusedSimpArgs false
set_option linter.unusedVariables false
namespace Go.Proofs.Ytbejifbiffeamaa
open Go.RowKit
def sumTo (g : Nat → Nat) : Nat → Nat
  | 0 => 0
  | n + 1 => sumTo g n + g n
theorem sumTo_congr {g h : Nat → Nat} {n : Nat} (e : ∀ i, i < n → g i = h i) : sumTo g n = sumTo h n := by
  induction n with
  | zero => rfl
  | succ n ih => show sumTo g n + g n = sumTo h n + h n; rw [ih fun i hi => e i (by omega), e n (by omega)]
theorem sumTo_add (g h : Nat → Nat) (n : Nat) : sumTo (fun i => g i + h i) n = sumTo g n + sumTo h n := by
  induction n with
  | zero => rfl
  | succ n ih => show sumTo (fun i => g i + h i) n + (g n + h n) = sumTo g n + g n + (sumTo h n + h n); rw [ih]; omega
theorem sumTo_zero (n : Nat) : sumTo (fun _ => 0) n = 0 := by
  induction n with
  | zero => rfl
  | succ n ih => show sumTo (fun _ => 0) n + 0 = 0; rw [ih]
theorem sumTo_one {n a : Nat} (h : a < n) : sumTo (fun i => if i = a then 1 else 0) n = 1 := by
  induction n with
  | zero => omega
  | succ n ih =>
    show sumTo (fun i => if i = a then 1 else 0) n + (if n = a then 1 else 0) = 1
    by_cases e : n = a
    · subst e
      rw [if_pos rfl, sumTo_congr (h := fun _ => 0) (fun i hi => if_neg (by omega)), sumTo_zero]
    · rw [if_neg e, ih (by omega)]
theorem sum_range (g : Int → Nat) (n : Nat) : (((List.range n).map fun i : Nat => (i : Int)).map g).sum = sumTo (fun i => g i) n := by
  induction n with
  | zero => rfl
  | succ n ih =>
    rw [List.range_succ, List.map_append, List.map_append, List.sum_append, ih]
    simp [sumTo]
theorem sum_filter0 (g : Int → Nat) (p : Int → Bool) (l : List Int) (h : ∀ x ∈ l, p x = false → g x = 0) : ((l.filter p).map g).sum = (l.map g).sum := by
  induction l with
  | nil => rfl
  | cons x l ih =>
    have ih := ih fun y hy => h y (List.mem_cons_of_mem _ hy)
    cases hp : p x with
    | true => rw [List.filter_cons_of_pos hp, List.map_cons, List.map_cons, List.sum_cons, List.sum_cons, ih]
    | false =>
      rw [List.filter_cons_of_neg (by simp [hp]), List.map_cons, List.sum_cons, ih, h x List.mem_cons_self hp]
      omega
theorem range_nodup (n : Nat) : ((List.range n).map fun i : Nat => (i : Int)).Nodup := by
  unfold List.Nodup
  rw [List.pairwise_map]
  exact (List.nodup_range (n := n)).imp fun {a b} h e => h (by omega)
theorem tot_sum {M : Msh} (hN : Net M) {i : Nat} (hi : i < M.n) : totM M i = sumTo (fun k => ((M.bx i).row k).length) M.n := by
  have hok := hN.ok i hi
  have hp : (M.bx i).ks.Perm (((List.range M.n).map fun i : Nat => (i : Int)).filter fun k => decide (k ∈ (M.bx i).ks)) := (List.perm_ext_iff_of_nodup (rises_nodup hok.rises) ((range_nodup M.n).sublist List.filter_sublist)).2 fun k => by
    rw [List.mem_filter]
    constructor
    · intro hk
      obtain ⟨q, e, hq⟩ := ks_nat hN hi hk
      exact ⟨List.mem_map.2 ⟨q, List.mem_range.2 hq, e.symm⟩, by simpa using hk⟩
    · intro hh
      simpa using hh.2
  unfold totM
  rw [sum_perm (hp.map (rowN M i)), sum_filter0, sum_range]
  · rfl
  · intro k _ hk
    have hk2 : k ∉ (M.bx i).ks := by simpa using hk
    unfold rowN
    have : (M.bx i).row k = [] := by
      by_cases e : (M.bx i).row k = []
      · exact e
      · exact absurd ((hok.mem k).2 e) hk2
    rw [this]
    rfl
theorem all_sum {M : Msh} (hN : Net M) (n : Nat) (hn : n ≤ M.n) : allM M n = sumTo (fun i => sumTo (fun k => ((M.bx i).row k).length) M.n) n := by
  induction n with
  | zero => rfl
  | succ n ih =>
    show allM M n + totM M n = _ + _
    rw [ih (by omega), tot_sum hN (by omega)]
theorem rows_sum (N : Nat) (l : List RP) (h : ∀ p ∈ l, (0 ≤ p.1 ∧ p.1 < (N : Int)) ∧ (0 ≤ p.2.1 ∧ p.2.1 < (N : Int))) : sumTo (fun i => sumTo (fun k => (rowOf i k l).length) N) N = l.length := by
  induction l with
  | nil =>
    have e0 : ∀ i : Nat, sumTo (fun k => (rowOf i k []).length) N = 0 := fun i => sumTo_zero N
    rw [sumTo_congr (h := fun _ => 0) (fun i _ => e0 i), sumTo_zero]
    rfl
  | cons p l ih =>
    have ih := ih fun q hq => h q (List.mem_cons_of_mem _ hq)
    obtain ⟨⟨a1, a2⟩, b1, b2⟩ := h p List.mem_cons_self
    have e1 : ∀ i k : Nat, (rowOf i k (p :: l)).length = (rowOf i k l).length + (if i = p.1.toNat then (if k = p.2.1.toNat then 1 else 0) else 0) := fun i k => by
      show (if rmine i k p then p.2.2 :: rowOf i k l else rowOf i k l).length = _
      by_cases hm : rmine i k p = true
      · have := rmine_iff.1 hm
        rw [if_pos hm, if_pos (by omega), if_pos (by omega)]
        rfl
      · rw [if_neg hm]
        by_cases c1 : i = p.1.toNat
        · rw [if_pos c1, if_neg (fun c2 => hm (rmine_iff.2 ⟨by omega, by omega⟩))]
          omega
        · rw [if_neg c1]
          omega
    rw [sumTo_congr (h := fun i => sumTo (fun k => (rowOf i k l).length) N + (if i = p.1.toNat then 1 else 0)) (fun i hi => ?_), sumTo_add, ih, sumTo_one (by omega), List.length_cons]
    rw [sumTo_congr (h := fun k => (rowOf i k l).length + (if i = p.1.toNat then (if k = p.2.1.toNat then 1 else 0) else 0)) (fun k _ => e1 i k), sumTo_add]
    congr 1
    by_cases c1 : i = p.1.toNat
    · rw [if_pos c1, sumTo_congr (h := fun k => if k = p.2.1.toNat then 1 else 0) (fun k _ => if_pos c1), sumTo_one (by omega)]
    · rw [if_neg c1, sumTo_congr (h := fun _ => 0) (fun k _ => if_neg c1), sumTo_zero]
theorem rel_all {M : Msh} (hN : Net M) {X : RM} (h : Rel M X) : allM M M.n = X.L.length := by
  rw [all_sum hN M.n (Nat.le_refl _), ← rows_sum M.n X.L h.ok]
  exact sumTo_congr fun i hi => sumTo_congr fun k _ => by rw [h.row i hi k]
theorem rel_waits {M : Msh} {X : RM} (h : Rel M X) (t k : Int) : waitsX M t k = rcount t k X.L := by
  by_cases ht : M.has t
  · obtain ⟨t1, t2, _⟩ := has_nat ht
    unfold waitsX
    rw [if_pos ht, rcount_row, h.row _ t2, ← t1]
  · have h0 : ¬ 0 ≤ rfind t k 0 0 X.L := fun hh => ht ((rel_find h t k 0 (Int.le_refl 0)).1 hh).1
    unfold waitsX
    rw [if_neg ht, rcount_row]
    cases hc : (rowOf t k X.L).length with
    | zero => rfl
    | succ n =>
      obtain ⟨q, p, e, _⟩ := rfind_in (t := t) (k := k) X.L 0 0 (by omega)
      have e' : rfind t k 0 0 X.L = ((0 + q : Nat) : Int) := e
      exact absurd (by rw [e']; omega) h0
end Go.Proofs.Ytbejifbiffeamaa
set_option linter.unusedSimpArgs false
set_option linter.unusedVariables false
namespace Go.Proofs.Ytbejifbiffeamaa
open Go.RowKit
attribute [local go_sem] extract_mid extract_drop bget bsize wrap64_u8 i64_u8 u64_u8 bappend
abbrev refV (X : RM) (A : Option Addr) (c : Nat) (B : Option Addr) (d : Nat) : Value := .agg (rmV A X.L.length c B X.la.length d X.lo)
section
variable {F : List SProp} {A B : Option Addr} {c d : Nat} {X : RM} {M : Msh}
theorem rsend_la (X : RM) (k : Int) (x : List UInt8) (t : Int) : (rsend X k x t).la = X.la := by unfold rsend; split; split <;> rfl; rfl
theorem rsendY (h2 : X.L.length ≤ 100000) (hl0 : 0 ≤ X.lo) (hl1 : X.lo ≤ 1000000) (hc : X.L.length ≤ c) (k : Int) (x : List UInt8) (t : Int) (w : World) (hM : Star F w) (hL : rowE 3 A X.L.length (rps X.L) ∈ F) :
    Calls Try.prog 65 #[refV X A c B d, .int .i64 k, .string ⟨x.toArray⟩, .int .i64 t] w fun r w' => ∃ A' c', r = .returned (.tuple #[refV (rsend X k x t) A' c' B d, .int .i64 (rsendE X k x t)]) ∧ (rsend X k x t).L.length ≤ c' ∧ Star (rowE 3 A' (rsend X k x t).L.length (rps (rsend X k x t).L) :: F) w' := by
  by_cases hb : X.has t ∧ X.has k
  · by_cases hx : x.length ≤ 1024
    · by_cases hr : rcount t k X.L < 8
      · have e1 : rsend X k x t = { X with L := X.L ++ [(t, k, x)] } := by unfold rsend; rw [if_pos hb, if_pos ⟨hx, hr⟩]
        have e2 : rsendE X k x t = 0 := by unfold rsendE; rw [if_pos hb, if_pos hx, if_pos hr]
        rw [e1, e2]
        have e3 : (X.L ++ [(t, k, x)]).length = X.L.length + 1 := by rw [List.length_append]; rfl
        refine (send_rm_ok rfl h2 k x t hb.1 hb.2 hx hr w hM hL).mono fun _ _ ⟨A', c', e, h3, h4⟩ => ⟨A', c', ?_, ?_, ?_⟩
        · rw [e]
          show _ = Ending.returned (.tuple #[.agg (rmV A' (X.L ++ [(t, k, x)]).length c' B X.la.length d X.lo), .int .i64 0])
          rw [e3]
        · show (X.L ++ [(t, k, x)]).length ≤ c'
          rw [e3]; exact h3
        · show Star (rowE 3 A' (X.L ++ [(t, k, x)]).length (rps (X.L ++ [(t, k, x)])) :: F) _
          rw [e3]; exact h4
      · have e1 : rsend X k x t = { X with lo := X.lo + 1 } := by unfold rsend; rw [if_pos hb, if_neg (fun h => hr h.2)]
        have e2 : rsendE X k x t = 14 := by unfold rsendE; rw [if_pos hb, if_pos hx, if_neg hr]
        rw [e1, e2]
        exact (send_rm_full rfl h2 k x t hb.1 hb.2 hx (by omega) hl0 hl1 w hM hL).mono fun _ _ ⟨e, h4⟩ => ⟨A, c, e, hc, h4.dup_row hL⟩
    · have e1 : rsend X k x t = { X with lo := X.lo + 1 } := by unfold rsend; rw [if_pos hb, if_neg (fun h => hx h.1)]
      have e2 : rsendE X k x t = 5 := by unfold rsendE; rw [if_pos hb, if_neg hx]
      rw [e1, e2]
      exact (send_rm_big k x t hb.1 hb.2 (by omega) hl0 hl1 w hM).mono fun _ _ ⟨e, h4⟩ => ⟨A, c, e, hc, h4.dup_row hL⟩
  · have e1 : rsend X k x t = X := if_neg hb
    have e2 : rsendE X k x t = 10 := if_neg hb
    rw [e1, e2]
    exact (send_rm_arg k x t hb w hM).mono fun _ _ ⟨e, h4⟩ => ⟨A, c, e, hc, h4.dup_row hL⟩
/-- What the reference's Drop says. -/
def rdropP (X : RM) (t k i : Int) : RP := if 0 ≤ i ∧ 0 ≤ rfind t k i 0 X.L then X.L.getD (rfind t k i 0 X.L).toNat (0, 0, []) else (0, 0, [])
theorem rdropY (h2 : X.L.length ≤ 100000) (hc : X.L.length ≤ c) (t k i : Int) (w : World) (hM : Star F w) (hL : rowE 3 A X.L.length (rps X.L) ∈ F) :
    Calls Try.prog 67 #[refV X A c B d, .int .i64 t, .int .i64 k, .int .i64 i] w fun r w' => ∃ A' c', r = .returned (.tuple #[refV (rdrop X t k i) A' c' B d, rpA (rdropP X t k i), .bool (decide (0 ≤ i ∧ 0 ≤ rfind t k i 0 X.L))]) ∧ (rdrop X t k i).L.length ≤ c' ∧ Star (rowE 3 A' (rdrop X t k i).L.length (rps (rdrop X t k i).L) :: F) w' := by
  by_cases hb : 0 ≤ i ∧ 0 ≤ rfind t k i 0 X.L
  · obtain ⟨j, p, e, hp, _⟩ := rfind_spec X.L i 0 hb.2
    rw [Nat.zero_add] at e
    have e1 : rdrop X t k i = { X with L := X.L.eraseIdx j } := by unfold rdrop; rw [if_pos hb, e, Int.toNat_natCast]
    have e2 : rdropP X t k i = p := by unfold rdropP; rw [if_pos hb, e, Int.toNat_natCast, List.getD_eq_getElem?_getD, hp]; rfl
    have hj := (List.getElem?_eq_some_iff.1 hp).1
    have e3 : (X.L.eraseIdx j).length = X.L.length - 1 := by rw [List.length_eraseIdx, if_pos hj]
    rw [e1, e2, decide_eq_true hb]
    refine (drop_rm_ok rfl h2 hc t k i hb.1 j e hp w hM hL).mono fun _ _ ⟨A', c', e4, h3, h4⟩ => ⟨A', c', ?_, ?_, ?_⟩
    · rw [e4]
      show _ = Ending.returned (.tuple #[.agg (rmV A' (X.L.eraseIdx j).length c' B X.la.length d X.lo), _, _])
      rw [e3]
    · show (X.L.eraseIdx j).length ≤ c'
      rw [e3]; exact h3
    · show Star (rowE 3 A' (X.L.eraseIdx j).length (rps (X.L.eraseIdx j)) :: F) _
      rw [e3]; exact h4
  · have e1 : rdrop X t k i = X := if_neg hb
    have e2 : rdropP X t k i = (0, 0, []) := if_neg hb
    rw [e1, e2, decide_eq_false hb]
    exact (drop_rm_no rfl h2 t k i (by omega) w hM hL).mono fun _ _ ⟨e, h4⟩ => ⟨A, c, e, hc, h4.dup_row hL⟩
theorem rwaitsY (h2 : X.L.length ≤ 100000) (t k : Int) (w : World) (hM : Star F w) (hL : rowE 3 A X.L.length (rps X.L) ∈ F) :
    Calls Try.prog 41 #[refV X A c B d, .int .i64 t, .int .i64 k] w fun r w' => r = .returned (.int .i64 (rcount t k X.L : Nat)) ∧ Star F w' :=
  waits_rm rfl (by omega) t k w hM hL
theorem rtakeY (hN : Net M) (h : Rel M X) (h2 : X.L.length ≤ 100000) (hc : X.L.length ≤ c) (hd : X.la.length ≤ d) (t : Int) (w : World) (hM : Star F w) (hL : rowE 3 A X.L.length (rps X.L) ∈ F) (hB : rowE 1 B X.la.length (ivs X.la) ∈ F) :
    Calls Try.prog 42 #[refV X A c B d, .int .i64 t] w fun r w' => ∃ A' c' B' d' X' p, r = .returned (.tuple #[refV X' A' c' B' d', rpA p, .bool (takeP M t).2.2]) ∧ Hid (Rel (takeX M t) X') ∧ p.2.1 = (takeP M t).1 ∧ p.2.2 = (takeP M t).2.1 ∧ X'.L.length ≤ c' ∧ X'.la.length ≤ d' ∧ X'.L.length ≤ X.L.length ∧ Star (rowE 1 B' X'.la.length (ivs X'.la) :: rowE 3 A' X'.L.length (rps X'.L) :: F) w' := by
  by_cases ht : M.has t
  · obtain ⟨t1, t2, _⟩ := has_nat ht
    have hm : X.la.length ≤ 64 := by rw [h.la]; exact hN.n64
    rw [t1]
    refine (take_rm rfl h2 hc rfl hm t.toNat rfl (by rw [h.la]; exact t2) (h.at_ _ t2) w hM hL hB).mono fun _ _ hp => ?_
    rcases hp with ⟨hno, e, h4⟩ | ⟨T, q, j, p, hT, hq, hh, h1, h3, hj, hpj, A', c', B', d', e, hcc, hdd, h4⟩
    · obtain ⟨e1, e2⟩ := rel_take_none hN h t2 (fun q hq => hno q (by rw [h.la]; exact hq))
      rw [e1, e2]
      exact ⟨A, c, B, d, X, (0, 0, []), e, h, rfl, rfl, hc, hd, Nat.le_refl _, (h4.dup_row hL).dup_row (List.mem_cons_of_mem _ hB)⟩
    · obtain ⟨e1, e2⟩ := rel_take_some hN h t2 hT (by rw [← h.la]; exact hq) hh h1 (fun hT1 q' hq' => h3 hT1 q' (by rw [h.la]; exact hq')) hj hpj
      have hjl := (List.getElem?_eq_some_iff.1 hpj).1
      have e3 : (X.L.eraseIdx j).length = X.L.length - 1 := by rw [List.length_eraseIdx, if_pos hjl]
      have e4 : (X.la.set t.toNat (q : Int)).length = X.la.length := List.length_set
      have hpq : p.2.1 = (q : Int) := by
        obtain ⟨q2, p2, f1, f2, f3⟩ := rfind_spec X.L 0 0 (by rw [hj]; omega)
        rw [hj, Nat.zero_add] at f1
        have f4 : q2 = j := by omega
        subst f4
        rw [hpj] at f2
        injection f2 with f2
        subst f2
        exact (rmine_iff.1 f3).2
      rw [e1]
      refine ⟨A', c', B', d', ⟨X.L.eraseIdx j, X.la.set t.toNat q, X.lo⟩, p, ?_, e2, hpq, rfl, by show (X.L.eraseIdx j).length ≤ c'; omega, by show (X.la.set t.toNat (q : Int)).length ≤ d'; omega, by show (X.L.eraseIdx j).length ≤ _; omega, ?_⟩
      · rw [e]
        show _ = Ending.returned (.tuple #[.agg (rmV A' (X.L.eraseIdx j).length c' B' (X.la.set t.toNat (q : Int)).length d' X.lo), _, _])
        rw [e3, e4]
      · show Star (rowE 1 B' (X.la.set t.toNat (q : Int)).length _ :: rowE 3 A' (X.L.eraseIdx j).length _ :: F) _
        rw [e3, e4]
        exact h4
  · have e1 : takeX M t = M := if_neg ht
    have e2 : takeP M t = (0, [], false) := if_neg ht
    rw [e1, e2]
    refine (take_rm_out t (fun hh => ht ((h.has_iff t).1 hh)) w hM).mono fun _ _ ⟨e, h4⟩ => ⟨A, c, B, d, X, (0, 0, []), e, h, rfl, rfl, hc, hd, Nat.le_refl _, (h4.dup_row hL).dup_row (List.mem_cons_of_mem _ hB)⟩
theorem rnewY {x : Int} (N : Nat) (hx : x = N) (hN : N ≤ 64) (w : World) (hM : Star F w) :
    Calls Try.prog 39 #[.int .i64 x] w fun r w' => ∃ B d, r = .returned (refV ⟨[], List.replicate N (-1), 0⟩ none 0 B d) ∧ N ≤ d ∧ Star (rowE 1 B (List.replicate N (-1 : Int)).length (ivs (List.replicate N (-1))) :: rowE 3 none 0 (rps []) :: F) w' := by
  refine (new_rm N hx hN w hM).mono fun _ _ ⟨B, d, e, hd, h⟩ => ⟨B, d, ?_, hd, ?_⟩
  · rw [e]
    show _ = Ending.returned (.agg (rmV none 0 0 B (List.replicate N (-1 : Int)).length d 0))
    rw [List.length_replicate]
  · rw [List.length_replicate]
    have h3 : Star (rowE 3 none 0 (rps []) :: rowE 1 B N (ivs (List.replicate N (-1))) :: F) _ := h.free (fun k ⟨ad, e, _⟩ => by cases e) Rd.none_
    exact h3.perm (List.Perm.swap _ _ _)
/-- What the law's loop over the reference makes of a Cast. -/
def rcast (X : RM) (k : Int) (x : List UInt8) : Nat → RM
  | 0 => X
  | j + 1 => if (j : Int) = k then rcast X k x j else rsend (rcast X k x j) k x j
theorem rel_castM (hN : Net M) (h : Rel M X) {k : Int} (hk : M.has k) (x : List UInt8) (j : Nat) (hj : j ≤ M.n) : Rel (castM M k x j) (rcast X k x j) := by
  induction j with
  | zero => exact h
  | succ j ih =>
    have ih := ih (by omega)
    have hn := (net_castM hN hk x j).2
    unfold castM rcast
    split
    · exact ih
    · have h3 := (rel_send ih k x j).1
      have e : sendX (castM M k x j) j k x = sendG (castM M k x j) j k x := by
        unfold sendX
        rw [if_pos ⟨⟨by omega, by rw [hn]; omega⟩, ⟨hk.1, by rw [hn]; exact hk.2⟩⟩, Int.toNat_natCast]
      rwa [e] at h3
theorem rel_cast (hN : Net M) (h : Rel M X) (k : Int) (x : List UInt8) : Rel (castX M k x) (rcast X k x M.n) := by
  unfold castX
  split
  · rename_i hk
    exact rel_castM hN h hk x M.n (Nat.le_refl _)
  · rename_i hk
    have e : ∀ j, rcast X k x j = X := fun j => by
      induction j with
      | zero => rfl
      | succ j ih =>
        unfold rcast
        rw [ih]
        split
        · rfl
        · exact if_neg (fun hh => hk ((h.has_iff k).1 hh.2))
    rw [e]
    exact h
theorem rdropP_text (h : Rel M X) {t k i : Int} (hb : M.there t k i) : (rdropP X t k i).2.2 = M.text t k i := by
  have hi := hb.2.1
  have hf := (rel_find h t k i hi).2 hb
  obtain ⟨t1, t2, _⟩ := has_nat hb.1
  have hrow : (M.bx t.toNat).row k = rowOf t k X.L := by rw [h.row _ t2, ← t1]
  have ei : i = (i.toNat : Int) := by omega
  have hl : i.toNat < (rowOf t k X.L).length := by have := hb.2.2; rw [hrow] at this; omega
  obtain ⟨q, p, h1, h2, _, _, h5, _⟩ := rfind_in X.L i.toNat 0 hl
  rw [← ei, Nat.zero_add] at h1
  unfold rdropP Msh.text
  rw [if_pos ⟨hi, hf⟩, h1, Int.toNat_natCast, List.getD_eq_getElem?_getD, h2, hrow, List.getD_eq_getElem?_getD, h5]
  rfl
theorem rel_again (hN : Net M) (h : Rel M X) {t k i : Int} (hb : M.there t k i) : Rel (againX M t k i) (rsend X k (rdropP X t k i).2.2 t) ∧ (rsendE X k (rdropP X t k i).2.2 t == 0) = againE M t k i := by
  have hk := (there_ks hN hb).2
  have h3 := rel_send h k (M.text t k i) t
  have e1 : againX M t k i = sendX M t k (M.text t k i) := by unfold againX sendX; rw [if_pos hb, if_pos ⟨hb.1, hk⟩]
  have e2 : againE M t k i = (sendXE M t k (M.text t k i) == 0) := by unfold againE sendXE; rw [if_pos hb, if_pos ⟨hb.1, hk⟩]
  rw [rdropP_text h hb, e1, e2, h3.2]
  exact ⟨h3.1, rfl⟩
theorem rel_late (hN : Net M) (h : Rel M X) {t k i : Int} (hb : M.there t k i) : Rel (lateX M t k i) (rsend (rdrop X t k i) k (rdropP X t k i).2.2 t) ∧ (rsendE (rdrop X t k i) k (rdropP X t k i).2.2 t == 0) = lateE M t k i := by
  have hk := (there_ks hN hb).2
  have h3 := rel_send (rel_drop h t k i) k (M.text t k i) t
  have hn : (dropX M t k i).has t ∧ (dropX M t k i).has k := by unfold Msh.has; rw [dropX_n]; exact ⟨hb.1, hk⟩
  have e1 : lateX M t k i = sendX (dropX M t k i) t k (M.text t k i) := by unfold lateX sendX; rw [if_pos hb, if_pos hn]
  have e2 : lateE M t k i = (sendXE (dropX M t k i) t k (M.text t k i) == 0) := by unfold lateE sendXE; rw [if_pos hb, if_pos hn]
  rw [rdropP_text h hb, e1, e2, h3.2]
  exact ⟨h3.1, rfl⟩
end
end Go.Proofs.Ytbejifbiffeamaa
set_option linter.unusedSimpArgs false
set_option linter.unusedVariables false
namespace Go.Proofs.Ytbejifbiffeamaa
open Go.RowKit
attribute [local go_sem] extract_mid extract_drop bget bsize wrap64_u8 i64_u8 u64_u8 bappend
/-- An act. -/
abbrev actV (K ka kb kn : Int) (x : List UInt8) : Array Value := #[.int .i64 K, .int .i64 ka, .int .i64 kb, .int .i64 kn, .string ⟨x.toArray⟩]
def cutT (x : List UInt8) : List UInt8 := if 1024 < x.length then x.take 1025 else x
/-- What Does leaves: the net and the reference in the relation, true. -/
def DoesR (a : MA) (M : Msh) (X : RM) (F : List SProp) (r : Ending) (w' : World) : Prop := ∃ M' f' l' X' A' c' B' d', r = .returned (.tuple #[refV X' A' c' B' d', .bool true]) ∧ Hid (Tied M' f' l') ∧ Hid (Net M') ∧ Hid (Rel M' X') ∧ M'.n = M.n ∧ M'.lost ≤ M.lost + 64 ∧ X'.L.length ≤ X.L.length + 64 ∧ X'.L.length ≤ c' ∧ X'.la.length ≤ d' ∧ Star (netE a M' f' :: rowsE l' :: rowE 1 B' X'.la.length (ivs X'.la) :: rowE 3 A' X'.L.length (rps X'.L) :: F) w'
theorem sendG_lost (M : Msh) (t : Nat) (k : Int) (x : List UInt8) : (sendG M t k x).lost ≤ M.lost + 1 := by
  unfold sendG
  split
  · show M.lost ≤ _; omega
  · exact Int.le_refl _
theorem sendX_lost (M : Msh) (t k : Int) (x : List UInt8) : (sendX M t k x).lost ≤ M.lost + 1 := by
  unfold sendX
  split
  · exact sendG_lost _ _ _ _
  · omega
theorem rsend_len (X : RM) (k : Int) (x : List UInt8) (t : Int) : (rsend X k x t).L.length ≤ X.L.length + 1 := by
  unfold rsend
  split
  · split
    · show (X.L ++ _).length ≤ _; rw [List.length_append]; exact Nat.le_refl _
    · exact Nat.le_succ _
  · exact Nat.le_succ _
section
variable {F : List SProp} {A B : Option Addr} {c d : Nat} {X : RM} {M : Msh} {a : MA} {f : Sls} {l : List (Option Addr × List (List UInt8))}
set_option maxRecDepth 100000 in
set_option maxHeartbeats 8000000 in
theorem does_1 (hN : Hid (Net M)) (hT : Hid (Tied M f l)) (hR : Hid (Rel M X)) (hl : M.lost ≤ 50000) (hL : X.L.length ≤ 50000) (hc : X.L.length ≤ c) (hd : X.la.length ≤ d) (ka kb kn : Int) (x : List UInt8) (hx : x.length ≤ 9223372036854775807) (w : World) (hM : Star (netE a M f :: rowsE l :: rowE 1 B X.la.length (ivs X.la) :: rowE 3 A X.L.length (rps X.L) :: F) w) :
    Calls Try.prog 40 #[mptr a, refV X A c B d, .agg (actV 1 ka kb kn x)] w (DoesR a M X F) := by
  have hlo := hR.out.lo
  have hl0 := hN.out.l0
  obtain ⟨y, hy⟩ : ∃ y, cutT x = y := ⟨_, rfl⟩
  have hrs := rel_send hR.out ka y kb
  obtain ⟨M2, hM2⟩ : ∃ M2, sendX M kb ka y = M2 := ⟨_, rfl⟩
  obtain ⟨X2, hX2⟩ : ∃ X2, rsend X ka y kb = X2 := ⟨_, rfl⟩
  obtain ⟨e2, he2⟩ : ∃ e2, sendXE M kb ka y = e2 := ⟨_, rfl⟩
  have HS : Hid (∀ (g : Nat) (w : World) (L R1 R2 F : List SProp), Star L w → Take (rowE 1 (some ⟨g, 0, none⟩) 1 (ivs [kb])) L R1 → Take (netE a M f) R1 R2 → Take (rowsE l) R2 F → Calls Try.prog 17 #[mptr a, .int .i64 ka, .string ⟨y.toArray⟩, .slice (some ⟨g, 0, none⟩) 1 1] w fun r w' => ∃ f' l', Hid (Tied M2 f' l') ∧ r = .returned (.int .i64 e2) ∧ Star (netE a M2 f' :: rowsE l' :: F) w') := fun g w L R1 R2 F hM h1 h2 h3 => by
    have := sendY hN.out hT (by omega) kb ka y w hM h1 h2 h3
    rwa [hM2, he2] at this
  have HRS : Hid (∀ (w : World) (L : List SProp), Star L w → rowE 3 A X.L.length (rps X.L) ∈ L → Calls Try.prog 65 #[refV X A c B d, .int .i64 ka, .string ⟨y.toArray⟩, .int .i64 kb] w fun r w' => ∃ A' c', r = .returned (.tuple #[refV X2 A' c' B d, .int .i64 e2]) ∧ X2.L.length ≤ c' ∧ Star (rowE 3 A' X2.L.length (rps X2.L) :: L) w') := fun w L hM h1 => by
    have := rsendY (B := B) (d := d) (by omega) (by omega) (by omega) hc ka y kb w hM h1
    rwa [hX2, hrs.2, he2] at this
  have HN2 : Hid (Net M2) := by rw [← hM2]; exact net_sendX hN.out _ _ _
  have HR2 : Hid (Rel M2 X2) := by rw [← hM2, ← hX2]; exact hrs.1
  have HB : Hid (M2.n = M.n ∧ M2.lost ≤ M.lost + 64 ∧ X2.L.length ≤ X.L.length + 64) := by
    rw [← hM2, ← hX2]
    have := sendX_lost M kb ka y
    have := rsend_len X ka y kb
    exact ⟨sendX_n _ _ _ _, by omega, by omega⟩
  have HLA : Hid (X2.la = X.la) := by rw [← hX2]; exact rsend_la X ka y kb
  have HD := Lib.hid hd
  clear hrs hM2 hX2 he2 hlo hl0
  unfold refV at HRS ⊢
  generalize hn : X.L.length = n at hM hL hc HRS ⊢
  generalize hm : X.la.length = m at hM hd HRS ⊢
  generalize hlq : X.lo = lo at HRS ⊢
  have Hn := Lib.hid hn
  have Hm := Lib.hid hm
  clear hn hm hlq
  unfold cutT at hy
  have tok1 : Hid True := trivial
  by_cases hxc : 1024 < x.length
  · rw [if_pos hxc] at hy
    have h1 : (1024 : Int) < (x.length : Int) := by omega
    go_enter Try.func40, Try.ntmps40
    go_wp2_with (first | (first | ((with_reducible refine at_box' ?_); (have hM0 := hM; clear hM; refine BigFrame.wpList_want (by rfl) fun K hK => ws_box hM0 rfl rfl (cs := rmV A n c B m d lo) rfl (fun g4 w hM => hK _ _ ?_); clear hM0 hK K)) | fail) | (first | ((with_reducible refine at_box' ?_); (have hM0 := hM; clear hM; refine BigFrame.wpList_want (by rfl) fun K hK => ws_box hM0 rfl rfl (cs := actV 1 ka kb kn x) rfl (fun g5 w hM => hK _ _ ?_); clear hM0 hK K)) | fail) | (have _t := tok1; (first | ((with_reducible refine at_alloc' ?_); (have hM0 := hM; clear hM; refine BigFrame.wpList_want (by rfl) fun K hK => ws_alloc hM0 (t := 77) rfl #[.slice none 0 0, .slice none 0 0, .int .i64 0] info_rmz (fun g6 w hM => hK _ _ ?_); clear hM0 hK K)) | fail); clear tok1) | (first | ((with_reducible refine at_alloc' ?_); (have hM0 := hM; clear hM; refine BigFrame.wpList_want (by rfl) fun K hK => ws_alloc hM0 (t := 77) rfl #[.slice none 0 0, .slice none 0 0, .int .i64 0] info_rmz (fun g10 w hM => hK _ _ ?_); clear hM0 hK K)) | fail) | (first | ((with_reducible refine at_load' ?_); (refine BigFrame.wpList_want (by rfl) fun K hK => ws_load1 hM rfl rfl (by (repeat (first | assumption | (with_reducible exact mZ) | apply mS)); first | done | fail) (by first | rfl | assumption) (by decide +kernel) (hK _ _ ?_); clear hK K)) | fail) | (first | ((with_reducible refine at_slice' ?_); (have hM0 := hM; clear hM; refine BigFrame.wpList_want (by rfl) fun K hK => ws_slice_row hM0 (n := 1) rfl 3 1 (.int .i64 0) [.int .i64 kb] Try.underlying23 (by kernel_rfl) rfl (by simp [Value.cells, iv, sv, bv]) (by rfl) (by decide) (cs := ivs [kb]) (by rfl) (fun g9 w hM => hK _ _ ?_); clear hM0 hK K)) | fail) | (go_at_call 17; have hM0 := hM; clear hM; (first | (with_reducible refine (HS.out _ _ _ _ _ _ hM0 (by (repeat (first | (with_reducible exact Take.head) | apply Take.tail)); first | done | fail) (by (repeat (first | (with_reducible exact Take.head) | apply Take.tail)); first | done | fail) (by (repeat (first | (with_reducible exact Take.head) | apply Take.tail)); first | done | fail)).mono ?_) | fail); clear hM0; rintro _ w ⟨f', l', HT', rfl, hM⟩) | (go_at_call 65; have hM0 := hM; clear hM; (first | (with_reducible refine (HRS.out _ _ hM0 (by (repeat (first | assumption | (with_reducible exact mZ) | apply mS)); first | done | fail)).mono ?_) | fail); clear hM0; rintro _ w ⟨A', c', rfl, hcc, hM⟩) | (first | ((with_reducible refine at_load' ?_); (refine BigFrame.wpList_want (by rfl) fun K hK => ws_load hM rfl rfl (by (repeat (first | assumption | (with_reducible exact mZ) | apply mS)); first | done | fail) (n := 3) (by rfl) (by decide +kernel) (hK _ _ ?_); clear hK K)) | fail) | (first | ((with_reducible refine at_store' ?_); (have hM0 := hM; clear hM; refine BigFrame.wpList_want (by rfl) fun K hK => ws_store hM0 rfl rfl rfl (by (repeat (first | (with_reducible exact Take.head) | apply Take.tail)); first | done | fail) (n := 3) (by rfl) (by rfl) (by kernel_rfl) (by simp [Value.oneCell']) (fun w hM => hK _ _ ?_); clear hM0 hK K)) | fail))
    refine bodyPost_ret (results_row_tmp (P := Try.prog) (ty := 77) rfl _ _ g6 77 (rmV A' X2.L.length c' B X2.la.length d X2.lo) 3 (.bool true) rfl (by simp) (hM.blk (by (repeat (first | assumption | (with_reducible exact mZ) | apply mS)); first | done | fail)) rfl (by decide +kernel)) rfl ?_
    exact ⟨M2, f', l', X2, A', c', B, d, rfl, HT', HN2, HR2, HB.out.1, HB.out.2.1, by have := HB.out.2.2; have := Hn.out; omega, hcc, by rw [HLA.out]; exact HD.out, by rw [HLA.out, Hm.out]; exact hM.sel (by repeat (first | (with_reducible exact Sel.refl) | (with_reducible exact Take.head) | (with_reducible apply Take.tail) | (with_reducible apply Sel.cons) | (with_reducible apply Sel.drop)))⟩
  · rw [if_neg hxc] at hy
    subst hy
    have h1 : (x.length : Int) ≤ 1024 := by omega
    go_enter Try.func40, Try.ntmps40
    go_wp2_with (first | (first | ((with_reducible refine at_box' ?_); (have hM0 := hM; clear hM; refine BigFrame.wpList_want (by rfl) fun K hK => ws_box hM0 rfl rfl (cs := rmV A n c B m d lo) rfl (fun g4 w hM => hK _ _ ?_); clear hM0 hK K)) | fail) | (first | ((with_reducible refine at_box' ?_); (have hM0 := hM; clear hM; refine BigFrame.wpList_want (by rfl) fun K hK => ws_box hM0 rfl rfl (cs := actV 1 ka kb kn x) rfl (fun g5 w hM => hK _ _ ?_); clear hM0 hK K)) | fail) | (have _t := tok1; (first | ((with_reducible refine at_alloc' ?_); (have hM0 := hM; clear hM; refine BigFrame.wpList_want (by rfl) fun K hK => ws_alloc hM0 (t := 77) rfl #[.slice none 0 0, .slice none 0 0, .int .i64 0] info_rmz (fun g6 w hM => hK _ _ ?_); clear hM0 hK K)) | fail); clear tok1) | (first | ((with_reducible refine at_alloc' ?_); (have hM0 := hM; clear hM; refine BigFrame.wpList_want (by rfl) fun K hK => ws_alloc hM0 (t := 77) rfl #[.slice none 0 0, .slice none 0 0, .int .i64 0] info_rmz (fun g10 w hM => hK _ _ ?_); clear hM0 hK K)) | fail) | (first | ((with_reducible refine at_load' ?_); (refine BigFrame.wpList_want (by rfl) fun K hK => ws_load1 hM rfl rfl (by (repeat (first | assumption | (with_reducible exact mZ) | apply mS)); first | done | fail) (by first | rfl | assumption) (by decide +kernel) (hK _ _ ?_); clear hK K)) | fail) | (first | ((with_reducible refine at_slice' ?_); (have hM0 := hM; clear hM; refine BigFrame.wpList_want (by rfl) fun K hK => ws_slice_row hM0 (n := 1) rfl 3 1 (.int .i64 0) [.int .i64 kb] Try.underlying23 (by kernel_rfl) rfl (by simp [Value.cells, iv, sv, bv]) (by rfl) (by decide) (cs := ivs [kb]) (by rfl) (fun g9 w hM => hK _ _ ?_); clear hM0 hK K)) | fail) | (go_at_call 17; have hM0 := hM; clear hM; (first | (with_reducible refine (HS.out _ _ _ _ _ _ hM0 (by (repeat (first | (with_reducible exact Take.head) | apply Take.tail)); first | done | fail) (by (repeat (first | (with_reducible exact Take.head) | apply Take.tail)); first | done | fail) (by (repeat (first | (with_reducible exact Take.head) | apply Take.tail)); first | done | fail)).mono ?_) | fail); clear hM0; rintro _ w ⟨f', l', HT', rfl, hM⟩) | (go_at_call 65; have hM0 := hM; clear hM; (first | (with_reducible refine (HRS.out _ _ hM0 (by (repeat (first | assumption | (with_reducible exact mZ) | apply mS)); first | done | fail)).mono ?_) | fail); clear hM0; rintro _ w ⟨A', c', rfl, hcc, hM⟩) | (first | ((with_reducible refine at_load' ?_); (refine BigFrame.wpList_want (by rfl) fun K hK => ws_load hM rfl rfl (by (repeat (first | assumption | (with_reducible exact mZ) | apply mS)); first | done | fail) (n := 3) (by rfl) (by decide +kernel) (hK _ _ ?_); clear hK K)) | fail) | (first | ((with_reducible refine at_store' ?_); (have hM0 := hM; clear hM; refine BigFrame.wpList_want (by rfl) fun K hK => ws_store hM0 rfl rfl rfl (by (repeat (first | (with_reducible exact Take.head) | apply Take.tail)); first | done | fail) (n := 3) (by rfl) (by rfl) (by kernel_rfl) (by simp [Value.oneCell']) (fun w hM => hK _ _ ?_); clear hM0 hK K)) | fail))
    refine bodyPost_ret (results_row_tmp (P := Try.prog) (ty := 77) rfl _ _ g6 77 (rmV A' X2.L.length c' B X2.la.length d X2.lo) 3 (.bool true) rfl (by simp) (hM.blk (by (repeat (first | assumption | (with_reducible exact mZ) | apply mS)); first | done | fail)) rfl (by decide +kernel)) rfl ?_
    exact ⟨M2, f', l', X2, A', c', B, d, rfl, HT', HN2, HR2, HB.out.1, HB.out.2.1, by have := HB.out.2.2; have := Hn.out; omega, hcc, by rw [HLA.out]; exact HD.out, by rw [HLA.out, Hm.out]; exact hM.sel (by repeat (first | (with_reducible exact Sel.refl) | (with_reducible exact Take.head) | (with_reducible apply Take.tail) | (with_reducible apply Sel.cons) | (with_reducible apply Sel.drop)))⟩
end
end Go.Proofs.Ytbejifbiffeamaa
