/- The walks of gear.New, Over, Next, Count, Reset, All and of the reference's number, One, All. No condition but sizes. -/
import Derived.Test.YthjceppddmecdaaGearP
import Derived.Test.YthjceppddmecdaaHashU
import Derived.Test.YthjceppddmecdaaRef1u
import Derived.Test.YthjceppddmecdaaMask
set_option linter.unusedSimpArgs false
set_option linter.unusedVariables false
namespace Go.Proofs.Ythjceppddmecdaa
open Go.RowKit
attribute [local go_sem] extract_mid extract_drop bget bsize wrap64_u8 i64_u8 u64_u8 bappend
attribute [local go_sem] gStep_eq
/-- A table that is only read. -/
abbrev tabE (g : Nat) (t : List Nat) : SProp := rowE 1 (some ⟨g, 0, none⟩) 256 (uvs t)
abbrev rollE (r g v n : Nat) : SProp := cellsE r 99 #[.pointer (some ⟨g, 0, none⟩), .int .u64 v, .int .i64 n]
theorem uvs_set (P Q : List Nat) (v x : Nat) (k : Nat) (hk : P.length = k) : (uvs (P ++ v :: Q)).toArray.setIfInBounds k (.int .u64 (x : Int)) = (uvs (P ++ x :: Q)).toArray := by
  subst hk
  rw [List.setIfInBounds_toArray]
  congr 1
  simp only [uvs, List.map_append, List.map_cons]
  rw [List.set_append, if_neg (by simp), List.length_map, Nat.sub_self]
  rfl
theorem uvs_set2 (P Q : List Nat) (v x : Nat) (k : Nat) (hk : P.length = k) {y : Int} (h : y = (x : Int)) : (uvs (P ++ v :: Q)).toArray.setIfInBounds k (.int .u64 y) = (uvs (P ++ x :: Q)).toArray := by
  rw [h]; exact uvs_set P Q v x k hk
theorem uvs_mid (P Q : List Nat) (v : Nat) (k : Nat) (hk : P.length = k) : (uvs (P ++ v :: Q)).toArray[k]? = some (.int .u64 (v : Int)) := by
  subst hk
  simp [uvs, uv]
theorem info_tab : (Try.prog.info? 71).map (fun i => i.zero) = some (some (.agg (uvs (List.replicate 256 0)).toArray)) := by kernel_rfl
set_option maxRecDepth 100000 in
set_option maxHeartbeats 4000000 in
theorem gnew_star {F : List SProp} (seed : List UInt8) (hl : seed.length ≤ 1000000) (w : World) (hM : Star F w) :
    Calls Try.prog 28 #[.string ⟨seed.toArray⟩] w fun r w' => ∃ g, r = .returned (.pointer (some ⟨g, 0, none⟩)) ∧ Star (tabE g (gTab seed) :: F) w' := by
  obtain ⟨T, hT⟩ : ∃ T, T = gTab seed := ⟨_, rfl⟩
  have HTl : T.length = 256 := by rw [hT]; exact gTab_len seed
  have HT := Lib.hid hT
  rw [← hT]
  clear hT
  go_enter Try.func28, Try.ntmps28
  go_wp2_with (first | (first | (have hM0 := hM; clear hM; refine BigFrame.wpList_want (by rfl) fun K hK => ws_alloc hM0 (t := 71) rfl (uvs (List.replicate 256 0)).toArray info_tab (fun g3 w hM => hK _ _ ?_); clear hM0 hK K) | fail))
  go_loopw [8] (fun i wr => ∃ k : Nat, k ≤ 256 ∧ i = .int .i64 k ∧ Star (cellsE g3 71 (uvs (T.take k ++ List.replicate (256 - k) 0)).toArray :: F) wr) (fun i _ => 256 - (intOf i).toNat)
  case atStart => exact ⟨0, by omega, rfl, hM⟩
  case round =>
    clear hM
    obtain ⟨k, hk, rfl, hM⟩ := hrel
    by_cases hlt : k < 256
    · obtain ⟨c, hc⟩ : ∃ c, c = UInt8.ofNat k := ⟨_, rfl⟩
      have hck : IntKind.u8.wrap (k : Int) = (c.toNat : Int) := by rw [IntKind.wrap_u8, hc]; simp; try omega
      have hTk : T[k]? = some (gOne seed c) := by rw [HT.out, hc]; exact gTab_at seed k hlt
      have HTk := Lib.hid hTk
      have HTS := Lib.hid (take_snoc_at _ _ _ hTk)
      obtain ⟨P, hP⟩ : ∃ P, P = T.take k := ⟨_, rfl⟩
      have HPl : Hid (P.length = k) := by show _ = _; rw [hP]; simp; omega
      have hr : List.replicate (256 - k) 0 = (0 : Nat) :: List.replicate (255 - k) 0 := by rw [show 256 - k = (255 - k) + 1 by omega, List.replicate_succ]
      rw [← hP, hr] at hM
      have HP := Lib.hid hP
      obtain ⟨Q, hQ⟩ : ∃ Q, List.replicate (255 - k) (0 : Nat) = Q := ⟨_, rfl⟩
      rw [hQ] at hM
      have HQ := Lib.hid hQ
      have HSL := Lib.hid (sha_len (cat [gearB, seed, [c]]))
      clear hTk hc hP hr hQ
      go_wp2_with (first | (first | (have hM0 := hM; clear hM; refine BigFrame.wpList_want (by rfl) fun K hK => ws_slice_row hM0 (n := 1) rfl 5 1 (.int .u8 0) [bv c] Try.underlying63 (by kernel_rfl) rfl (by simp [Value.cells, iv, sv, bv]) (by rfl) (by decide) (cs := bvs [c]) (by rfl) (fun gb w hM => hK _ _ ?_); clear hM0 hK K) | fail) | (first | (refine BigFrame.wpList_want (by rfl) fun K hK => ws_string (l := [c]) rfl 5 Try.underlying63 Try.underlying9 Try.underlying5 rfl (by first | (apply Star.row hM; (repeat (first | assumption | (with_reducible exact List.mem_cons_self) | apply List.mem_cons_of_mem)); done) | (apply Star.own hM; (repeat (first | assumption | (with_reducible exact List.mem_cons_self) | apply List.mem_cons_of_mem)); done) | (apply Star.arr hM; (focus ((repeat (first | assumption | (with_reducible exact List.mem_cons_self) | apply List.mem_cons_of_mem)); done)); assumption)) (hK _ _ ?_); clear hK K) | fail) | (first | (have hM0 := hM; clear hM; refine BigFrame.wpList_want (by rfl) fun K hK => ws_slice_row hM0 (n := 3) rfl 9 1 (.string ByteArray.empty) [sv gearB, sv seed, sv [c]] Try.underlying41 (by kernel_rfl) rfl (by simp [Value.cells, iv, sv, bv]) (by rfl) (by decide) (cs := svs [gearB, seed, [c]]) (by rfl) (fun gr w hM => hK _ _ ?_); clear hM0 hK K) | fail) | (go_at_call 45; have hM0 := hM; clear hM; (first | (with_reducible refine (of_star [gearB, seed, [c]] _ 3 3 (by simp [gearB]; omega) (by omega) _ hM0 (by (repeat (first | assumption | (with_reducible exact List.mem_cons_self) | apply List.mem_cons_of_mem)); first | done | fail)).mono ?_) | fail); clear hM0; rintro _ w ⟨rfl, hM⟩) | (first | (have hM0 := hM; clear hM; refine BigFrame.wpList_want (by rfl) fun K hK => ws_alloc hM0 (t := 22) rfl (bvs z32).toArray info_sum (fun g5 w hM => hK _ _ ?_); clear hM0 hK K) | fail) | (first | (have hM0 := hM; clear hM; refine BigFrame.wpList_want (by rfl) fun K hK => ws_store hM0 rfl rfl rfl (by (repeat (first | (with_reducible exact Take.head) | apply Take.tail)); first | done | fail) (n := 32) (by simp [bvs_len, HSL.out]) (by simp [bvs_len, z32_len]) (by kernel_rfl) (by simpa using bvs_oneCell _) (fun w hM => hK _ _ ?_); clear hM0 hK K) | fail))
      obtain ⟨B, hB⟩ : ∃ B, B = sha (cat [gearB, seed, [c]]) := ⟨_, rfl⟩
      rw [← hB] at hM HSL
      have HB := Lib.hid hB
      clear hB
      obtain ⟨wq, rfl⟩ : ∃ wq : World, wq = w := ⟨_, rfl⟩
      go_loopw [20] (fun i wx => ∃ j : Nat, j ≤ 8 ∧ i = .int .i64 j ∧ Star (cellsE g5 22 (bvs B).toArray :: cellsE g3 71 (uvs (P ++ numOf (B.take j) :: Q)).toArray :: F) wx) (fun i _ => 8 - (intOf i).toNat)
      case atStart => exact ⟨0, by omega, rfl, by rw [List.take_zero, numOf_nil]; exact hM.sel (by repeat (first | (with_reducible exact Sel.refl) | (with_reducible exact Take.head) | (with_reducible apply Take.tail) | (with_reducible apply Sel.cons) | (with_reducible apply Sel.drop)))⟩
      case round =>
        clear hM
        obtain ⟨j, hj, rfl, hM⟩ := hrel
        by_cases hj8 : j < 8
        · obtain ⟨d, hd⟩ : ∃ d, B[j]? = some d := ⟨_, List.getElem?_eq_getElem (by rw [HSL.out]; omega)⟩
          have hv : (bvs B).toArray[j]? = some (.int .u8 (d.toNat : Int)) := by simpa using bvs_at hd
          have hn1 := numOf_lt (B.take j)
          have hn2 := pow_le8 (B.take j).length (by simp; omega)
          have HO := Lib.hid (or_low (numOf (B.take j)) d (by omega))
          have HS : Hid (numOf (B.take (j + 1)) = numOf (B.take j) * 256 + d.toNat) := by show _ = _; rw [take_snoc_at _ _ _ hd, numOf_snoc]
          have hm := uvs_mid P Q (numOf (B.take j)) k HPl.out
          clear hn1 hn2 hd
          go_wp2_with (first | (first | (refine BigFrame.wpList_want (by rfl) fun K hK => ws_load1 hM rfl rfl (by (repeat (first | assumption | (with_reducible exact List.mem_cons_self) | apply List.mem_cons_of_mem)); first | done | fail) (by first | rfl | assumption) (by decide +kernel) (hK _ _ ?_); clear hK K) | fail) | (first | (have hM0 := hM; clear hM; refine BigFrame.wpList_want (by rfl) fun K hK => ws_store1 hM0 rfl rfl (by go_simp; rfl) (by first | rfl | assumption) (by (repeat (first | (with_reducible exact Take.head) | apply Take.tail)); first | done | fail) (by (simp [uvs_len]; have := HPl.out; omega)) (by kernel_rfl) (by exact uvs_set2 P Q _ _ k HPl.out HO.out) (fun w hM => hK _ _ ?_); clear hM0 hK K) | fail))
          go_roundw
          case rel => exact ⟨j + 1, by omega, by go_num, by rw [HS.out]; exact hM.sel (by repeat (first | (with_reducible exact Sel.refl) | (with_reducible exact Take.head) | (with_reducible apply Take.tail) | (with_reducible apply Sel.cons) | (with_reducible apply Sel.drop)))⟩
          case measure => simp [intOf]; omega
        · obtain rfl : j = 8 := by omega
          have HE : Hid (gOne seed c = numOf (B.take 8)) := by show _ = _; rw [HB.out]; rfl
          go_wp2
          go_roundw
          case rel => exact ⟨k + 1, by omega, by go_num, by rw [HTS.out, ← HP.out, HE.out, show 256 - (k + 1) = 255 - k by omega, HQ.out, List.append_assoc, List.singleton_append]; exact hM.sel (by repeat (first | (with_reducible exact Sel.refl) | (with_reducible exact Take.head) | (with_reducible apply Take.tail) | (with_reducible apply Sel.cons) | (with_reducible apply Sel.drop)))⟩
          case measure => simp [intOf]; omega
    · obtain rfl : k = 256 := by omega
      rw [Nat.sub_self, List.replicate_zero, List.append_nil, List.take_of_length_le (by omega)] at hM
      go_wp2
      go_ret
      exact ⟨g3, rfl, by simpa using hM.row_of_blk (n := 256) (size := 1) (by simp [uvs_len, HTl])⟩
set_option maxRecDepth 100000 in
theorem gover_star {F : List SProp} (g : Nat) (w : World) (hM : Star F w) :
    Calls Try.prog 48 #[.pointer (some ⟨g, 0, none⟩)] w fun r w' => ∃ q, r = .returned (.pointer (some ⟨q, 0, none⟩)) ∧ Star (rollE q g 0 0 :: F) w' := by
  go_enter Try.func48, Try.ntmps48
  go_wp2_with (first | (refine build_any rfl _ _ rfl _ (by kernel_rfl) ?_) | (first | (have hM0 := hM; clear hM; refine BigFrame.wpList_want (by rfl) fun K hK => ws_box hM0 rfl rfl rfl (fun g5 w hM => hK _ _ ?_); clear hM0 hK K) | fail))
  go_ret
  exact ⟨_, rfl, hM⟩
set_option maxRecDepth 100000 in
theorem gcount_star {F : List SProp} {q g v n : Nat} (w : World) (hM : Star F w) (hF : rollE q g v n ∈ F) :
    Calls Try.prog 51 #[.pointer (some ⟨q, 0, none⟩)] w fun r w' => r = .returned (.int .i64 n) ∧ Star F w' := by
  go_enter Try.func51, Try.ntmps51
  go_wp2_with (first | (first | (refine BigFrame.wpList_want (by rfl) fun K hK => ws_load1 hM rfl rfl (by (repeat (first | assumption | (with_reducible exact List.mem_cons_self) | apply List.mem_cons_of_mem)); first | done | fail) (by first | rfl | assumption) (by decide +kernel) (hK _ _ ?_); clear hK K) | fail))
  go_ret
  exact ⟨rfl, hM⟩
set_option maxRecDepth 100000 in
theorem greset_star {L R : List SProp} {q g v n : Nat} (w : World) (hM : Star L w) (hb : Take (rollE q g v n) L R) :
    Calls Try.prog 67 #[.pointer (some ⟨q, 0, none⟩)] w fun r w' => r = .returned (.tuple #[]) ∧ Star (rollE q g 0 0 :: R) w' := by
  replace hM := hM.take hb
  go_enter Try.func67, Try.ntmps67
  go_wp2_with (first | (first | (have hM0 := hM; clear hM; refine BigFrame.wpList_want (by rfl) fun K hK => ws_store1 hM0 rfl rfl (by go_simp; rfl) (by first | rfl | assumption) (by (repeat (first | (with_reducible exact Take.head) | apply Take.tail)); first | done | fail) (by simp) (by kernel_rfl) (by simp only [List.setIfInBounds_toArray, List.set_cons_zero, List.set_cons_succ]; rfl) (fun w hM => hK _ _ ?_); clear hM0 hK K) | fail))
  go_end0
  exact ⟨rfl, hM⟩
set_option maxRecDepth 100000 in
theorem gnext_star {L R : List SProp} {q g v n : Nat} {t : List Nat} (c : UInt8) (ht : t.length = 256) (hn : n ≤ 1000000000000) (w : World) (hM : Star L w) (hb : Take (rollE q g v n) L R) (hT : tabE g t ∈ R) :
    Calls Try.prog 49 #[.pointer (some ⟨q, 0, none⟩), .int .u8 c.toNat] w fun r w' => r = .returned (.int .u64 (gStep t v c)) ∧ Star (rollE q g (gStep t v c) (n + 1) :: R) w' := by
  replace hM := hM.take hb
  have hc := c.toNat_lt
  have hc1 : (c.toNat : Int) < 256 := by omega
  obtain ⟨x, hx⟩ : ∃ x, t[c.toNat]? = some x := ⟨_, List.getElem?_eq_getElem (by omega)⟩
  have hv := uvs_at hx
  have HS : Hid (gStep t v c = (v * 2 + x) % 18446744073709551616) := by show _ = _; rw [gStep, List.getD_eq_getElem?_getD, hx]; rfl
  rw [HS.out]
  clear hx hb
  generalize hR : (v * 2 + x) % 18446744073709551616 = y
  have hYI : ((v : Int) * 2 + (x : Int)) % 18446744073709551616 = (y : Int) := by omega
  clear hR
  go_enter Try.func49, Try.ntmps49
  go_wp2_with fail
  (refine region_RS ([rollE q g v n, tabE g t]) [17] (by kernel_rfl) hM ?_; clear hM; change RS _ _ _ _ _ _ 18 (Array.replicate 18 false) _ _; refine RS_take (i := 0) rfl (by decide +kernel) (fun _ _ _ h => h) (by first | (intro x hx; (repeat (first | exact hx | apply List.mem_cons_of_mem)); done) | ((repeat (refine List.forall_mem_cons.2 ⟨(by (repeat (first | assumption | (with_reducible exact List.mem_cons_self) | apply List.mem_cons_of_mem)); first | done | fail), ?_⟩)); intro x hx; first | (cases hx; done) | ((repeat (first | exact hx | apply List.mem_cons_of_mem)); done))) (stab_pure (by rfl) (fun w => (by go_simp; try with_reducible rfl))) ?_; simp only [Act.put, List.setIfInBounds_toArray, List.set_cons_zero, List.set_cons_succ]; refine RS_take (i := 1) rfl (by decide +kernel) (fun _ _ _ h => h) (by first | (intro x hx; (repeat (first | exact hx | apply List.mem_cons_of_mem)); done) | ((repeat (refine List.forall_mem_cons.2 ⟨(by (repeat (first | assumption | (with_reducible exact List.mem_cons_self) | apply List.mem_cons_of_mem)); first | done | fail), ?_⟩)); intro x hx; first | (cases hx; done) | ((repeat (first | exact hx | apply List.mem_cons_of_mem)); done))) (stab_pure (by rfl) (fun w => (by go_simp; try with_reducible rfl))) ?_; simp only [Act.put, List.setIfInBounds_toArray, List.set_cons_zero, List.set_cons_succ]; refine RS_take (i := 2) rfl (by decide +kernel) (fun _ _ _ h => h) (by first | (intro x hx; (repeat (first | exact hx | apply List.mem_cons_of_mem)); done) | ((repeat (refine List.forall_mem_cons.2 ⟨(by (repeat (first | assumption | (with_reducible exact List.mem_cons_self) | apply List.mem_cons_of_mem)); first | done | fail), ?_⟩)); intro x hx; first | (cases hx; done) | ((repeat (first | exact hx | apply List.mem_cons_of_mem)); done))) (stab_pure (by rfl) (fun w => (by go_simp; try with_reducible rfl))) ?_; simp only [Act.put, List.setIfInBounds_toArray, List.set_cons_zero, List.set_cons_succ]; refine RS_take (i := 3) rfl (by decide +kernel) (fun _ _ _ h => h) (by first | (intro x hx; (repeat (first | exact hx | apply List.mem_cons_of_mem)); done) | ((repeat (refine List.forall_mem_cons.2 ⟨(by (repeat (first | assumption | (with_reducible exact List.mem_cons_self) | apply List.mem_cons_of_mem)); first | done | fail), ?_⟩)); intro x hx; first | (cases hx; done) | ((repeat (first | exact hx | apply List.mem_cons_of_mem)); done))) (stab_pure (by rfl) (fun w => (by go_simp; try with_reducible rfl))) ?_; simp only [Act.put, List.setIfInBounds_toArray, List.set_cons_zero, List.set_cons_succ]; refine RS_take (i := 4) rfl (by decide +kernel) (fun _ _ _ h => h) (by first | (intro x hx; (repeat (first | exact hx | apply List.mem_cons_of_mem)); done) | ((repeat (refine List.forall_mem_cons.2 ⟨(by (repeat (first | assumption | (with_reducible exact List.mem_cons_self) | apply List.mem_cons_of_mem)); first | done | fail), ?_⟩)); intro x hx; first | (cases hx; done) | ((repeat (first | exact hx | apply List.mem_cons_of_mem)); done))) (stab_read (by rfl) (fun L w hL hM => (ex_load1 hM rfl rfl (hL _ (by (repeat (first | assumption | (with_reducible exact List.mem_cons_self) | apply List.mem_cons_of_mem)); first | done | fail)) rfl (by decide +kernel)))) ?_; simp only [Act.put, List.setIfInBounds_toArray, List.set_cons_zero, List.set_cons_succ]; refine RS_take (i := 5) rfl (by decide +kernel) (fun _ _ _ h => h) (by first | (intro x hx; (repeat (first | exact hx | apply List.mem_cons_of_mem)); done) | ((repeat (refine List.forall_mem_cons.2 ⟨(by (repeat (first | assumption | (with_reducible exact List.mem_cons_self) | apply List.mem_cons_of_mem)); first | done | fail), ?_⟩)); intro x hx; first | (cases hx; done) | ((repeat (first | exact hx | apply List.mem_cons_of_mem)); done))) (stab_pure (by rfl) (fun w => (by go_simp; try with_reducible rfl))) ?_; simp only [Act.put, List.setIfInBounds_toArray, List.set_cons_zero, List.set_cons_succ]; refine RS_take (i := 6) rfl (by decide +kernel) (fun _ _ _ h => h) (by first | (intro x hx; (repeat (first | exact hx | apply List.mem_cons_of_mem)); done) | ((repeat (refine List.forall_mem_cons.2 ⟨(by (repeat (first | assumption | (with_reducible exact List.mem_cons_self) | apply List.mem_cons_of_mem)); first | done | fail), ?_⟩)); intro x hx; first | (cases hx; done) | ((repeat (first | exact hx | apply List.mem_cons_of_mem)); done))) (stab_pure (by rfl) (fun w => (by go_simp; try with_reducible rfl))) ?_; simp only [Act.put, List.setIfInBounds_toArray, List.set_cons_zero, List.set_cons_succ]; refine RS_take (i := 7) rfl (by decide +kernel) (fun _ _ _ h => h) (by first | (intro x hx; (repeat (first | exact hx | apply List.mem_cons_of_mem)); done) | ((repeat (refine List.forall_mem_cons.2 ⟨(by (repeat (first | assumption | (with_reducible exact List.mem_cons_self) | apply List.mem_cons_of_mem)); first | done | fail), ?_⟩)); intro x hx; first | (cases hx; done) | ((repeat (first | exact hx | apply List.mem_cons_of_mem)); done))) (stab_pure (by rfl) (fun w => (by go_simp; try with_reducible rfl))) ?_; simp only [Act.put, List.setIfInBounds_toArray, List.set_cons_zero, List.set_cons_succ]; refine RS_take (i := 8) rfl (by decide +kernel) (fun _ _ _ h => h) (by first | (intro x hx; (repeat (first | exact hx | apply List.mem_cons_of_mem)); done) | ((repeat (refine List.forall_mem_cons.2 ⟨(by (repeat (first | assumption | (with_reducible exact List.mem_cons_self) | apply List.mem_cons_of_mem)); first | done | fail), ?_⟩)); intro x hx; first | (cases hx; done) | ((repeat (first | exact hx | apply List.mem_cons_of_mem)); done))) (stab_pure (by rfl) (fun w => (by go_simp; try with_reducible rfl))) ?_; simp only [Act.put, List.setIfInBounds_toArray, List.set_cons_zero, List.set_cons_succ]; refine RS_take (i := 9) rfl (by decide +kernel) (fun _ _ _ h => h) (by first | (intro x hx; (repeat (first | exact hx | apply List.mem_cons_of_mem)); done) | ((repeat (refine List.forall_mem_cons.2 ⟨(by (repeat (first | assumption | (with_reducible exact List.mem_cons_self) | apply List.mem_cons_of_mem)); first | done | fail), ?_⟩)); intro x hx; first | (cases hx; done) | ((repeat (first | exact hx | apply List.mem_cons_of_mem)); done))) (stab_read (by rfl) (fun L w hL hM => (ex_load1 hM rfl rfl (hL _ (by (repeat (first | assumption | (with_reducible exact List.mem_cons_self) | apply List.mem_cons_of_mem)); first | done | fail)) rfl (by decide +kernel)))) ?_; simp only [Act.put, List.setIfInBounds_toArray, List.set_cons_zero, List.set_cons_succ]; refine RS_take (i := 10) rfl (by decide +kernel) (fun _ _ _ h => h) (by first | (intro x hx; (repeat (first | exact hx | apply List.mem_cons_of_mem)); done) | ((repeat (refine List.forall_mem_cons.2 ⟨(by (repeat (first | assumption | (with_reducible exact List.mem_cons_self) | apply List.mem_cons_of_mem)); first | done | fail), ?_⟩)); intro x hx; first | (cases hx; done) | ((repeat (first | exact hx | apply List.mem_cons_of_mem)); done))) (stab_pure (by rfl) (fun w => (by go_simp; try with_reducible rfl))) ?_; simp only [Act.put, List.setIfInBounds_toArray, List.set_cons_zero, List.set_cons_succ]; refine RS_take (i := 11) rfl (by decide +kernel) (fun _ _ _ h => h) (by first | (intro x hx; (repeat (first | exact hx | apply List.mem_cons_of_mem)); done) | ((repeat (refine List.forall_mem_cons.2 ⟨(by (repeat (first | assumption | (with_reducible exact List.mem_cons_self) | apply List.mem_cons_of_mem)); first | done | fail), ?_⟩)); intro x hx; first | (cases hx; done) | ((repeat (first | exact hx | apply List.mem_cons_of_mem)); done))) (stab_pure (by rfl) (fun w => (by go_simp; try with_reducible rfl))) ?_; simp only [Act.put, List.setIfInBounds_toArray, List.set_cons_zero, List.set_cons_succ]; refine RS_take (i := 12) rfl (by decide +kernel) (fun _ _ _ h => h) (by first | (intro x hx; (repeat (first | exact hx | apply List.mem_cons_of_mem)); done) | ((repeat (refine List.forall_mem_cons.2 ⟨(by (repeat (first | assumption | (with_reducible exact List.mem_cons_self) | apply List.mem_cons_of_mem)); first | done | fail), ?_⟩)); intro x hx; first | (cases hx; done) | ((repeat (first | exact hx | apply List.mem_cons_of_mem)); done))) (stab_pure (by rfl) (fun w => (by go_simp; try with_reducible rfl))) ?_; simp only [Act.put, List.setIfInBounds_toArray, List.set_cons_zero, List.set_cons_succ]; refine RS_take (i := 13) rfl (by decide +kernel) (fun _ _ _ h => h) (by first | (intro x hx; (repeat (first | exact hx | apply List.mem_cons_of_mem)); done) | ((repeat (refine List.forall_mem_cons.2 ⟨(by (repeat (first | assumption | (with_reducible exact List.mem_cons_self) | apply List.mem_cons_of_mem)); first | done | fail), ?_⟩)); intro x hx; first | (cases hx; done) | ((repeat (first | exact hx | apply List.mem_cons_of_mem)); done))) (stab_read (by rfl) (fun L w hL hM => (ex_rowload0 rfl rfl (hM.row (hL _ (by (repeat (first | assumption | (with_reducible exact List.mem_cons_self) | apply List.mem_cons_of_mem)); first | done | fail))) hv (by decide +kernel)))) ?_; simp only [Act.put, List.setIfInBounds_toArray, List.set_cons_zero, List.set_cons_succ]; refine RS_take (i := 14) rfl (by decide +kernel) (fun _ _ _ h => h) (by first | (intro x hx; (repeat (first | exact hx | apply List.mem_cons_of_mem)); done) | ((repeat (refine List.forall_mem_cons.2 ⟨(by (repeat (first | assumption | (with_reducible exact List.mem_cons_self) | apply List.mem_cons_of_mem)); first | done | fail), ?_⟩)); intro x hx; first | (cases hx; done) | ((repeat (first | exact hx | apply List.mem_cons_of_mem)); done))) (stab_pure (by rfl) (fun w => (by go_simp; try with_reducible rfl))) ?_; simp only [Act.put, List.setIfInBounds_toArray, List.set_cons_zero, List.set_cons_succ]; refine RS_take (i := 15) rfl (by decide +kernel) (fun _ _ _ h => h) (by first | (intro x hx; (repeat (first | exact hx | apply List.mem_cons_of_mem)); done) | ((repeat (refine List.forall_mem_cons.2 ⟨(by (repeat (first | assumption | (with_reducible exact List.mem_cons_self) | apply List.mem_cons_of_mem)); first | done | fail), ?_⟩)); intro x hx; first | (cases hx; done) | ((repeat (first | exact hx | apply List.mem_cons_of_mem)); done))) (stab_pure (by rfl) (fun w => (by go_simp; try with_reducible rfl))) ?_; simp only [Act.put, List.setIfInBounds_toArray, List.set_cons_zero, List.set_cons_succ]; refine RS_take (i := 16) rfl (by decide +kernel) (fun _ _ _ h => h) (by first | (intro x hx; (repeat (first | exact hx | apply List.mem_cons_of_mem)); done) | ((repeat (refine List.forall_mem_cons.2 ⟨(by (repeat (first | assumption | (with_reducible exact List.mem_cons_self) | apply List.mem_cons_of_mem)); first | done | fail), ?_⟩)); intro x hx; first | (cases hx; done) | ((repeat (first | exact hx | apply List.mem_cons_of_mem)); done))) (stab_pure (by rfl) (fun w => (by go_simp; try with_reducible rfl))) ?_; simp only [Act.put, List.setIfInBounds_toArray, List.set_cons_zero, List.set_cons_succ]; refine RS_one (i := 17) (by decide +kernel) rfl (by rfl) (.inl (by first | (intro x hx; (repeat (first | exact hx | apply List.mem_cons_of_mem)); done) | ((repeat (refine List.forall_mem_cons.2 ⟨(by (repeat (first | assumption | (with_reducible exact List.mem_cons_self) | apply List.mem_cons_of_mem)); first | done | fail), ?_⟩)); intro x hx; first | (cases hx; done) | ((repeat (first | exact hx | apply List.mem_cons_of_mem)); done)))) (fun w K hM0 hK => ?_); refine ws_store1 hM0 rfl rfl (by go_simp; rfl) (by first | rfl | assumption) (by (repeat (first | (with_reducible exact Take.head) | apply Take.tail)); first | done | fail) (by simp) (by kernel_rfl) (by simp only [List.setIfInBounds_toArray, List.set_cons_zero, List.set_cons_succ]; rfl) (fun w hM => hK _ _ _ hM ?_); clear hM hM0 hK K; simp only [Act.put, List.setIfInBounds_toArray, List.set_cons_zero, List.set_cons_succ]; refine RS_done (by decide +kernel) (.inr (by decide +kernel)) (fun w hM => ?_))
  go_wp2_with (first | (first | (refine BigFrame.wpList_want (by rfl) fun K hK => ws_load1 hM rfl rfl (by (repeat (first | assumption | (with_reducible exact List.mem_cons_self) | apply List.mem_cons_of_mem)); first | done | fail) (by first | rfl | assumption) (by decide +kernel) (hK _ _ ?_); clear hK K) | fail) | (first | (have hM0 := hM; clear hM; refine BigFrame.wpList_want (by rfl) fun K hK => ws_store1 hM0 rfl rfl (by go_simp; rfl) (by first | rfl | assumption) (by (repeat (first | (with_reducible exact Take.head) | apply Take.tail)); first | done | fail) (by simp) (by kernel_rfl) (by simp only [List.setIfInBounds_toArray, List.set_cons_zero, List.set_cons_succ]; rfl) (fun w hM => hK _ _ ?_); clear hM0 hK K) | fail))
  go_ret
  exact ⟨rfl, hM⟩
end Go.Proofs.Ythjceppddmecdaa
