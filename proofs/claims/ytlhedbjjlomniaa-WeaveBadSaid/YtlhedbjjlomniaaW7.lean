/- What the laws share, part 7 (MerZ, MerG, MerA, MerH, WvK, WvP, WvB, WvA, WvN). No condition but those that each theorem names. -/
import Derived.Test.YtlhedbjjlomniaaW1
import Derived.Test.YtlhedbjjlomniaaW2
import Derived.Test.YtlhedbjjlomniaaW6
set_option linter.unusedSimpArgs false
set_option linter.unusedVariables false
namespace Go.Proofs.Ytlhedbjjlomniaa
open Go.RowKit
attribute [local go_sem] extract_mid extract_drop bget bsize wrap64_u8 i64_u8 u64_u8 bappend
theorem results_row_tmp2 {P : Program} {fn : Func} {p u v : Tmp} {ty : TypeId} (h : fn.results = #[.cell p ty, .tmp u, .tmp v]) (tmps : Array Value) (w : World) (g : Nat) (t : TypeId) (cs : Array Value) (n : Nat) (x y : Value) (hp : tmps.getD p undef = .pointer (some ⟨g, 0, none⟩)) (hx : tmps.getD u undef = x) (hy : tmps.getD v undef = y) (hg : Blk w g t cs) (hn : cs.size = n) (hr : rowTy P ty n = true) :
    (results fn tmps).run P w = .ok (.tuple #[.agg cs, x, y]) w := by
  obtain ⟨⟨d, h1, h2⟩, h3⟩ := rowTy_und hr
  have hl := run_loadVar_row w g t ty cs (0, 0) d hg h1 (by cases d <;> simp_all) (by rw [h3, hn])
  have hp' : tmps[p]?.getD undef = .pointer (some ⟨g, 0, none⟩) := by simpa using hp
  have hx' : tmps[u]?.getD undef = x := by simpa using hx
  have hy' : tmps[v]?.getD undef = y := by simpa using hy
  simp [results, h, hp', hx', hy', asAddr, hl]
def PB (F : List SProp) (cs : List (List UInt8)) (r : Ending) (w' : World) : Prop := ∃ U cu, r = .returned (.tuple #[.agg (pcs (buildB cs).1).toArray, .slice U (buildB cs).2.1.length cu, .int .i64 (buildB cs).2.2]) ∧ Star (rowE 34 U (buildB cs).2.1.length (ovs (buildB cs).2.1) :: F) w'
theorem PB_none {F : List SProp} {cs : List (List UInt8)} {e : Int} {w : World} (h : buildB cs = (noPt, [], e)) (hM : Star F w) : PB F cs (.returned (.tuple #[.agg (pcs noPt).toArray, .slice none 0 0, .int .i64 e])) w := by
  unfold PB
  rw [h]
  exact ⟨none, 0, rfl, hM.nilrow 34⟩
theorem build_pt0 (w : World) : (Instr.build 64 #[]).run Try.prog w = .ok (.agg (pcs noPt).toArray) w := by
  unfold pcs noPt z32
  kernel_rfl
theorem all_take_succ {cs : List (List UInt8)} {j : Nat} {d : List UInt8} (h : cs.take (j + 1) = cs.take j ++ [d]) (h1 : (cs.take j).all okCh = true) (h2 : okCh d = true) : (cs.take (j + 1)).all okCh = true := by
  rw [h, List.all_append, h1]
  simp [h2]
theorem leafP_snoc (a : List (List UInt8)) (d : List UInt8) : leafP (a ++ [d]) = leafP a ++ [(onm 1 d, (d.length : Int))] := by simp [leafP]
theorem leafO_snoc (a : List (List UInt8)) (d : List UInt8) : leafO (a ++ [d]) = leafO a ++ [(1, onm 1 d, d)] := by simp [leafO]
theorem leaf_sum_le (a : List (List UInt8)) (h : a.all okCh = true) : 0 ≤ sumP (leafP a) ∧ sumP (leafP a) ≤ 256 * a.length := by
  have := sumP_le 256 (leafP a) fun p hp => by
    obtain ⟨g, hg, rfl⟩ := List.mem_map.1 hp
    have h1 := List.all_eq_true.1 h g hg
    unfold okCh at h1
    simp only [decide_eq_true_eq] at h1
    simp only
    omega
  rwa [leafP_len] at this
set_option maxRecDepth 100000 in
set_option maxHeartbeats 8000000 in
theorem build_star {F : List SProp} (cs : List (List UInt8)) (A : Option Addr) (n c : Nat) (hn : n ≤ 200) (hx : ∀ x ∈ cs, x.length ≤ 1000000) (w : World) (hM : Star F w) (hF : rowE 1 A n (svs cs) ∈ F) :
    Calls Try.prog 34 #[.slice A n c] w (PB F cs) := by
  have hlen := svs_row (hM.row hF)
  have HL := Lib.hid hlen
  have HX := Lib.hid hx
  have HN0 : Hid ((pcs noPt).toArray.size = 33) := pcs_sz z32_32
  have tok1 : True := trivial
  clear hlen hx
  go_enter Try.func34, Try.ntmps34
  go_wp2_with (first | (first | (have hM0 := hM; clear hM; refine BigFrame.wpList_want (by rfl) fun K hK => ws_alloc hM0 (t := 64) rfl (pcs noPt).toArray info_pt (fun g2 w hM => hK _ _ ?_); clear hM0 hK K) | fail))
  replace hM := (hM.nilown 64 33).nilown 76 34
  go_loopw [5, 6, 7, 16] (fun O P S i wr => ∃ (j : Nat) (B : Option Addr) (cb : Nat) (U : Option Addr) (cu : Nat) (s : Int), j ≤ n ∧ i = .int .i64 j ∧ P = .slice B j cb ∧ O = .slice U j cu ∧ S = .int .i64 s ∧ Hid ((cs.take j).all okCh = true) ∧ Hid (s = sumP (leafP (cs.take j))) ∧
    Star (ownE 64 33 B j cb (pvs (leafP (cs.take j))) :: ownE 76 34 U j cu (ovs (leafO (cs.take j))) :: cellsE g2 64 (pcs noPt).toArray :: F) wr) (fun _ _ _ i _ => n - (intOf i).toNat)
  case atStart => exact ⟨0, none, 0, none, 0, 0, by omega, rfl, rfl, rfl, rfl, rfl, rfl, (hM.sel (by repeat (first | (with_reducible exact Sel.refl) | (with_reducible exact Take.head) | (with_reducible apply Take.tail) | (with_reducible apply Sel.cons) | (with_reducible apply Sel.drop))) : Star (ownE 64 33 none 0 0 [] :: ownE 76 34 none 0 0 [] :: cellsE g2 64 (pcs noPt).toArray :: F) _)⟩
  case round =>
    clear hM
    obtain ⟨j, B, cb, U, cu, s, hj, rfl, rfl, rfl, rfl, HOK, HS, hM⟩ := hrel
    by_cases hlt : j < n
    · obtain ⟨ad, d, rfl, hc, hg, ht⟩ := hM.elemS (A := A) (n := n) (l := cs) (List.mem_cons_of_mem _ (List.mem_cons_of_mem _ (List.mem_cons_of_mem _ hF))) hlt
      have hdm := List.mem_of_getElem? hg
      have hdx := HX.out d hdm
      rcases hok : okCh d with _ | _
      · have hbad : buildB cs = (noPt, [], 10) := by
          unfold buildB
          rw [if_pos]
          rw [List.all_eq_false]
          exact ⟨d, hdm, by rw [hok]; simp⟩
        have HBAD := Lib.hid hbad
        clear hbad ht hg hdm
        by_cases hd0 : d = []
        · subst hd0
          clear hok
          go_wp2_with (first | (first | (refine BigFrame.wpList_want (by rfl) fun K hK => ws_rowload rfl rfl (by first | (apply Star.row hM; (repeat (first | assumption | (with_reducible exact mZ) | apply mS)); done) | (apply Star.own hM; (repeat (first | assumption | (with_reducible exact mZ) | apply mS)); done) | (apply Star.arr hM; (focus ((repeat (first | assumption | (with_reducible exact mZ) | apply mS)); done)); assumption)) (by assumption) (by kernel_rfl) (hK _ _ ?_); clear hK K) | fail) | (refine BigFrame.wpList_want (by rfl) fun K hK => ws_build (parts := #[]) rfl (.agg (pcs noPt).toArray) (by first | (simp only [List.map_toArray, List.map_nil]; exact build_pt0 _) | (simp only [Array.map_empty]; exact build_pt0 _)) (hK _ _ ?_); clear hK K) | (first | (have hM0 := hM; clear hM; refine BigFrame.wpList_want (by rfl) fun K hK => ws_store hM0 rfl rfl rfl (by (repeat (first | (with_reducible exact Take.head) | apply Take.tail)); first | done | fail) (n := 33) (by exact pcs_sz z32_32) (by exact pcs_sz z32_32) (by kernel_rfl) (by exact pcs_oneA _) (fun w hM => hK _ _ ?_); clear hM0 hK K) | fail))
          refine bodyPost_ret (results_row_tmp2 (P := Try.prog) (ty := 64) rfl _ _ g2 64 (pcs noPt).toArray 33 _ _ rfl rfl rfl (hM.blk (by (repeat (first | assumption | (with_reducible exact mZ) | apply mS)); first | done | fail)) HN0.out (by decide +kernel)) rfl ?_
          exact PB_none HBAD.out (hM.sel (R := F) (by repeat (first | (with_reducible exact Sel.refl) | (with_reducible exact Take.head) | (with_reducible apply Take.tail) | (with_reducible apply Sel.cons) | (with_reducible apply Sel.drop))))
        · have hbig : 256 < d.length := by
            have : 0 < d.length := List.length_pos_iff.2 hd0
            unfold okCh at hok
            simp only [decide_eq_false_iff_not] at hok
            omega
          have b1 : decide (256 < (d.length : Int)) = true := by simp; omega
          have b2 : (!decide (d = [])) = true := by simpa using hd0
          clear hok
          go_wp2_with (first | (first | (refine BigFrame.wpList_want (by rfl) fun K hK => ws_rowload rfl rfl (by first | (apply Star.row hM; (repeat (first | assumption | (with_reducible exact mZ) | apply mS)); done) | (apply Star.own hM; (repeat (first | assumption | (with_reducible exact mZ) | apply mS)); done) | (apply Star.arr hM; (focus ((repeat (first | assumption | (with_reducible exact mZ) | apply mS)); done)); assumption)) (by assumption) (by kernel_rfl) (hK _ _ ?_); clear hK K) | fail) | (refine BigFrame.wpList_want (by rfl) fun K hK => ws_build (parts := #[]) rfl (.agg (pcs noPt).toArray) (by first | (simp only [List.map_toArray, List.map_nil]; exact build_pt0 _) | (simp only [Array.map_empty]; exact build_pt0 _)) (hK _ _ ?_); clear hK K) | (first | (have hM0 := hM; clear hM; refine BigFrame.wpList_want (by rfl) fun K hK => ws_store hM0 rfl rfl rfl (by (repeat (first | (with_reducible exact Take.head) | apply Take.tail)); first | done | fail) (n := 33) (by exact pcs_sz z32_32) (by exact pcs_sz z32_32) (by kernel_rfl) (by exact pcs_oneA _) (fun w hM => hK _ _ ?_); clear hM0 hK K) | fail))
          refine bodyPost_ret (results_row_tmp2 (P := Try.prog) (ty := 64) rfl _ _ g2 64 (pcs noPt).toArray 33 _ _ rfl rfl rfl (hM.blk (by (repeat (first | assumption | (with_reducible exact mZ) | apply mS)); first | done | fail)) HN0.out (by decide +kernel)) rfl ?_
          exact PB_none HBAD.out (hM.sel (R := F) (by repeat (first | (with_reducible exact Sel.refl) | (with_reducible exact Take.head) | (with_reducible apply Take.tail) | (with_reducible apply Sel.cons) | (with_reducible apply Sel.drop))))
      · have hd1 : 1 ≤ d.length ∧ d.length ≤ 256 := by unfold okCh at hok; simpa using hok
        have hd0 : ¬ (d = []) := by rintro rfl; simp at hd1
        have hsb := leaf_sum_le (cs.take j) HOK.out
        rw [← HS.out] at hsb
        have hlk : (cs.take j).length ≤ 200 := by rw [List.length_take]; omega
        have hs2 : s ≤ 51200 := by omega
        have hs1 : 0 ≤ s := hsb.1
        have HOK2 := Lib.hid (all_take_succ ht HOK.out hok)
        have HS2 : Hid (s + (d.length : Int) = sumP (leafP (cs.take (j + 1)))) := by show _ = _; rw [ht, leafP_snoc, sumP_app, HS.out]; simp [sumP]
        have HP : Hid (pvs (leafP (cs.take (j + 1))) = pvs (leafP (cs.take j)) ++ pvs [(onm 1 d, (d.length : Int))]) := by show _ = _; rw [ht, leafP_snoc, pvs_app]
        have HO : Hid (ovs (leafO (cs.take (j + 1))) = ovs (leafO (cs.take j)) ++ ovs [(1, onm 1 d, d)]) := by show _ = _; rw [ht, leafO_snoc, ovs_app]
        have HMK := Lib.hid (fun (L : List SProp) (w : World) (hM : Star L w) => make_star 1 1 rfl d hdx w hM)
        have hid := onm_len 1 d
        generalize onm 1 d = id at HP HO HMK hid
        have HID := Lib.hid hid
        have HBLD := Lib.hid (build_pt id hid (d.length : Int))
        have HOS : Hid ((ocs (1, id, d)).toArray.size = 34) := ocs_sz hid
        have HOL : Hid ((ocs (1, id, d)).length = 34) := ocs_len hid
        have HOS0 : Hid ((ocs (0, z32, [])).toArray.size = 34) := ocs_sz oz32
        have HPL : Hid ((pcs (id, (d.length : Int))).length = 33) := pcs_len hid
        have HPO : Hid (∀ v ∈ pvs [(id, (d.length : Int))], v.oneCell' = true) := pvs_cells _
        have HOO : Hid (∀ v ∈ ovs [(1, id, d)], v.oneCell' = true) := ovs_cells _
        have b1 : decide (256 < (d.length : Int)) = false := by simp; omega
        have HEE : Hid (decide (d = []) = false) := by show _ = _; simpa using hd0
        clear ht hg hdm hok hsb hlk hid hd0
        go_wp2_with (first | (refine BigFrame.wpList_want (by rfl) fun K hK => ws_of_ex (ex_eqs rfl rfl rfl HEE.out) (hK _ _ ?_); clear hK K) | (first | (refine BigFrame.wpList_want (by rfl) fun K hK => ws_rowload rfl rfl (by first | (apply Star.row hM; (repeat (first | assumption | (with_reducible exact mZ) | apply mS)); done) | (apply Star.own hM; (repeat (first | assumption | (with_reducible exact mZ) | apply mS)); done) | (apply Star.arr hM; (focus ((repeat (first | assumption | (with_reducible exact mZ) | apply mS)); done)); assumption)) (by assumption) (by kernel_rfl) (hK _ _ ?_); clear hK K) | fail) | (go_at_call 76; have hM0 := hM; clear hM; (first | (with_reducible refine (HMK.out _ _ hM0).mono ?_) | fail); clear hM0; rintro _ w ⟨rfl, hM⟩) | (first | (have hM0 := hM; clear hM; refine BigFrame.wpList_want (by rfl) fun K hK => ws_alloc hM0 (t := 76) rfl (ocs (0, z32, [])).toArray info_ob (fun g10 w hM => hK _ _ ?_); clear hM0 hK K) | fail) | (first | (have hM0 := hM; clear hM; refine BigFrame.wpList_want (by rfl) fun K hK => ws_store hM0 rfl rfl rfl (by (repeat (first | (with_reducible exact Take.head) | apply Take.tail)); first | done | fail) (n := 34) (by exact HOS.out) (by exact HOS0.out) (by kernel_rfl) (by exact ocs_oneA _) (fun w hM => hK _ _ ?_); clear hM0 hK K) | fail) | (first | (refine BigFrame.wpList_want (by rfl) fun K hK => ws_load hM rfl rfl (by (repeat (first | assumption | (with_reducible exact mZ) | apply mS)); first | done | fail) (n := 34) (by exact HOS.out) (by decide +kernel) (hK _ _ ?_); clear hK K) | fail) | (refine BigFrame.wpList_want (by rfl) fun K hK => ws_load_mid hM rfl rfl (by (repeat (first | assumption | (with_reducible exact mZ) | apply mS)); first | done | fail) (bvs id) (ocs_id (1, id, d)) (n := 32) (by rw [bvs_len]; exact HID.out) (by decide +kernel) (hK _ _ ?_); clear hK K) | (refine BigFrame.wpList_want (by rfl) fun K hK => ws_build rfl (.agg (pcs (id, (d.length : Int))).toArray) (by simp only [List.map_toArray, List.map_cons, List.map_nil]; exact HBLD.out _) (hK _ _ ?_); clear hK K) | (first | (have hM0 := hM; clear hM; refine BigFrame.wpList_want (by rfl) fun K hK => ws_slice_row hM0 (n := 1) rfl 76 34 (.agg (ocs (0, z32, [])).toArray) [.agg (ocs (1, id, d)).toArray] Try.underlying65 (by kernel_rfl) rfl (by simp [Value.cells, iv, sv, bv, HOL.out]) (by rfl) (by decide) (cs := ovs [(1, id, d)]) (by rfl) (fun g30 w hM => hK _ _ ?_); clear hM0 hK K) | fail) | (first | (have hM0 := hM; clear hM; refine BigFrame.wpList_want (by rfl) fun K hK => ws_slice_row hM0 (n := 1) rfl 64 33 (.agg (pcs (z32, 0)).toArray) [.agg (pcs (id, (d.length : Int))).toArray] Try.underlying50 (by kernel_rfl) rfl (by simp [Value.cells, iv, sv, bv, HPL.out]) (by rfl) (by decide) (cs := pvs [(id, (d.length : Int))]) (by rfl) (fun g26 w hM => hK _ _ ?_); clear hM0 hK K) | fail) | ((first | (have hM0 := hM; clear hM; refine BigFrame.wpList_want (by rfl) fun K hK => ws_append hM0 rfl rfl rfl 76 ((.agg (ocs (0, z32, [])).toArray)) 34 56 Try.underlying65 (by kernel_rfl) (by exact HOS0.out) (by decide) (by (repeat (first | (with_reducible exact Take.head) | apply Take.tail)); first | done | fail) (by first | (apply Star.row hM0; (repeat (first | assumption | (with_reducible exact mZ) | apply mS)); done) | (apply Star.own hM0; (repeat (first | assumption | (with_reducible exact mZ) | apply mS)); done) | (apply Star.arr hM0; (focus ((repeat (first | assumption | (with_reducible exact mZ) | apply mS)); done)); assumption)) (HOO.out) ((by omega)) (fun A2 c2 w hM hnil => hK _ _ ?_); clear hM0 hK K) | fail); simp only [Act.put, List.setIfInBounds_toArray, List.set_cons_zero, List.set_cons_succ]) | ((first | (have hM0 := hM; clear hM; refine BigFrame.wpList_want (by rfl) fun K hK => ws_append hM0 rfl rfl rfl 64 ((.agg (pcs (z32, 0)).toArray)) 33 40 Try.underlying50 (by kernel_rfl) (by exact pcs_sz z32_32) (by decide) (by (repeat (first | (with_reducible exact Take.head) | apply Take.tail)); first | done | fail) (by first | (apply Star.row hM0; (repeat (first | assumption | (with_reducible exact mZ) | apply mS)); done) | (apply Star.own hM0; (repeat (first | assumption | (with_reducible exact mZ) | apply mS)); done) | (apply Star.arr hM0; (focus ((repeat (first | assumption | (with_reducible exact mZ) | apply mS)); done)); assumption)) (HPO.out) ((by omega)) (fun A1 c1 w hM hnil => hK _ _ ?_); clear hM0 hK K) | fail); simp only [Act.put, List.setIfInBounds_toArray, List.set_cons_zero, List.set_cons_succ]))
        go_roundw
        case rel => exact ⟨j + 1, A1, c1, A2, c2, s + (d.length : Int), by omega, by go_num, rfl, rfl, by go_num, HOK2.out, HS2.out, by rw [HP.out, HO.out]; exact hM.sel (by repeat (first | (with_reducible exact Sel.refl) | (with_reducible exact Take.head) | (with_reducible apply Take.tail) | (with_reducible apply Sel.cons) | (with_reducible apply Sel.drop)))⟩
        case measure => simp [intOf]; omega
    · obtain rfl : j = n := by omega
      have htake : cs.take j = cs := List.take_of_length_le (by rw [HL.out]; omega)
      rw [htake] at hM
      have hok := HOK.out
      have hsv := HS.out
      rw [htake] at hok hsv
      have hsb := leaf_sum_le cs hok
      rw [HL.out, ← hsv] at hsb
      have hnall : ¬ (cs.all okCh = false) := by rw [hok]; simp
      by_cases hc0 : cs = []
      · have hj0 : j = 0 := by rw [← HL.out, hc0]; rfl
        subst hj0
        have hs0 : s = 0 := by rw [hsv, hc0]; rfl
        subst hs0
        have HBAD : Hid (buildB cs = (noPt, [], 10)) := by show _ = _; unfold buildB; rw [if_neg hnall, if_pos hc0]
        clear hnall hok hsb hsv htake hc0
        go_wp2_with (first | (refine BigFrame.wpList_want (by rfl) fun K hK => ws_build (parts := #[]) rfl (.agg (pcs noPt).toArray) (by first | (simp only [List.map_toArray, List.map_nil]; exact build_pt0 _) | (simp only [Array.map_empty]; exact build_pt0 _)) (hK _ _ ?_); clear hK K) | (first | (have hM0 := hM; clear hM; refine BigFrame.wpList_want (by rfl) fun K hK => ws_store hM0 rfl rfl rfl (by (repeat (first | (with_reducible exact Take.head) | apply Take.tail)); first | done | fail) (n := 33) (by exact pcs_sz z32_32) (by exact pcs_sz z32_32) (by kernel_rfl) (by exact pcs_oneA _) (fun w hM => hK _ _ ?_); clear hM0 hK K) | fail))
        refine bodyPost_ret (results_row_tmp2 (P := Try.prog) (ty := 64) rfl _ _ g2 64 (pcs noPt).toArray 33 _ _ rfl rfl rfl (hM.blk (by (repeat (first | assumption | (with_reducible exact mZ) | apply mS)); first | done | fail)) HN0.out (by decide +kernel)) rfl ?_
        exact PB_none HBAD.out (hM.sel (R := F) (by repeat (first | (with_reducible exact Sel.refl) | (with_reducible exact Take.head) | (with_reducible apply Take.tail) | (with_reducible apply Sel.cons) | (with_reducible apply Sel.drop))))
      have hj1 : 1 ≤ j := by
        have := List.length_pos_iff.2 hc0
        rw [HL.out] at this
        omega
      have hspos : 1 ≤ s := by
        obtain ⟨d, ds, rfl⟩ := List.exists_cons_of_ne_nil hc0
        have h1 := List.all_eq_true.1 hok d List.mem_cons_self
        unfold okCh at h1
        simp only [decide_eq_true_eq] at h1
        have h2 := nn_sum (leafP ds) (leafP_pos ds)
        rw [hsv]
        simp only [leafP, List.map_cons, sumP]
        unfold leafP at h2
        omega
      by_cases hbig : 32768 < s
      · have HBAD : Hid (buildB cs = (noPt, [], 5)) := by show _ = _; unfold buildB; rw [if_neg hnall, if_neg hc0, if_pos (by rw [← hsv]; exact hbig)]
        have b1 : decide (32768 < s) = true := by simpa using hbig
        have b2 : (s == 0) = false := by simp; omega
        have b3 : ¬ (s = 0) := by omega
        clear hnall hok hsb hsv htake hc0
        go_wp2_with (first | (refine BigFrame.wpList_want (by rfl) fun K hK => ws_build (parts := #[]) rfl (.agg (pcs noPt).toArray) (by first | (simp only [List.map_toArray, List.map_nil]; exact build_pt0 _) | (simp only [Array.map_empty]; exact build_pt0 _)) (hK _ _ ?_); clear hK K) | (first | (have hM0 := hM; clear hM; refine BigFrame.wpList_want (by rfl) fun K hK => ws_store hM0 rfl rfl rfl (by (repeat (first | (with_reducible exact Take.head) | apply Take.tail)); first | done | fail) (n := 33) (by exact pcs_sz z32_32) (by exact pcs_sz z32_32) (by kernel_rfl) (by exact pcs_oneA _) (fun w hM => hK _ _ ?_); clear hM0 hK K) | fail))
        refine bodyPost_ret (results_row_tmp2 (P := Try.prog) (ty := 64) rfl _ _ g2 64 (pcs noPt).toArray 33 _ _ rfl rfl rfl (hM.blk (by (repeat (first | assumption | (with_reducible exact mZ) | apply mS)); first | done | fail)) HN0.out (by decide +kernel)) rfl ?_
        exact PB_none HBAD.out (hM.sel (R := F) (by repeat (first | (with_reducible exact Sel.refl) | (with_reducible exact Take.head) | (with_reducible apply Take.tail) | (with_reducible apply Sel.cons) | (with_reducible apply Sel.drop))))
      · have hLl : (leafP cs).length = j := by rw [leafP_len]; exact HL.out
        have hLo : (leafO cs).length = j := by rw [leafO_len]; exact HL.out
        have HLV1 : Hid (Lvl 1 (leafP cs) (leafO cs)) := ⟨by omega, by omega, by omega, by rw [if_pos rfl]; omega, leafO_32 _, leafP_32 _, leafP_pos _, by omega, by omega⟩
        have HB : Hid (buildB cs = ((climb 4 1 (leafP cs) (leafO cs)).1.headD noPt, (climb 4 1 (leafP cs) (leafO cs)).2, 0)) := by show _ = _; unfold buildB; rw [if_neg hnall, if_neg hc0, if_neg (by rw [← hsv]; exact hbig)]
        obtain ⟨res, hres0⟩ : ∃ res, climb 4 1 (leafP cs) (leafO cs) = res := ⟨_, rfl⟩
        rw [hres0] at HB
        have HC1 : Hid (climb (5 - 1) ((1 : Nat) : Int) (leafP cs) (leafO cs) = res) := hres0
        clear hres0
        generalize leafP cs = l1 at hLl HLV1 HC1 hM
        generalize leafO cs = o1 at hLo HLV1 HC1 hM
        have b1 : decide (32768 < s) = false := by simpa using hbig
        have b2 : (s == 0) = false := by simp; omega
        have b3 : ¬ (s = 0) := by omega
        clear hnall hok hsb hsv htake hc0 HX HOK HS hF hlt
        go_wp2_with fail
        go_loopw [5, 6, 11] (fun O P K wr => ∃ (k : Nat) (l : List Pt) (o : List Ob) (m q : Nat) (B : Option Addr) (cb : Nat) (U : Option Addr) (cu : Nat), K = .int .i64 k ∧ P = .slice B m cb ∧ O = .slice U q cu ∧ Hid (l.length = m) ∧ Hid (o.length = q) ∧ Hid (Lvl k l o) ∧ Hid (climb (5 - k) (k : Int) l o = res) ∧
          Star (ownE 64 33 B m cb (pvs l) :: ownE 76 34 U q cu (ovs o) :: cellsE g2 64 (pcs noPt).toArray :: F) wr) (fun _ _ k _ => 5 - (intOf k).toNat)
        case atStart => exact ⟨1, l1, o1, j, j, B, cb, U, cu, rfl, rfl, rfl, hLl, hLo, HLV1.out, HC1.out, hM.sel (by repeat (first | (with_reducible exact Sel.refl) | (with_reducible exact Take.head) | (with_reducible apply Take.tail) | (with_reducible apply Sel.cons) | (with_reducible apply Sel.drop)))⟩
        case round =>
          clear hM hLl hLo HLV1 HC1
          clear b1 b2 b3
          obtain ⟨k, l, o, m, q, B, cb, U, cu, rfl, rfl, rfl, hlm, hoq, HLV, HCL, hM⟩ := hrel
          have hlv := HLV.out
          have hcl := HCL.out
          have hlm' := hlm.out
          have hoq' := hoq.out
          have k1 := hlv.k1
          have k4 := hlv.k4
          have hone := hlv.one
          have hlen := hlv.len
          have holen := hlv.olen
          have hm512 : m ≤ 512 := by split at hlen <;> (try split at hlen) <;> (try split at hlen) <;> omega
          have hcap := own_cap hM (show ownE 64 33 B m cb (pvs l) ∈ _ from by simp)
          by_cases hgo : k = 1 ∨ 1 < l.length
          · have hlv2 := hlv.up hgo
            have HLEV : ∀ (L : List SProp) (w : World), Star L w → rowE 33 B m (pvs l) ∈ L → Calls Try.prog 77 #[.int .i64 k, .slice B m cb] w fun r w' => ∃ B2 cb2 U2 cu2, r = .returned (.tuple #[.slice B2 (upP k l).length cb2, .slice U2 (upO k l).length cu2]) ∧
              Star (ownE 64 33 B2 (upP k l).length cb2 (pvs (upP k l)) :: ownE 76 34 U2 (upO k l).length cu2 (ovs (upO k l)) :: L) w' := fun L w hM hx =>
              level_star k ⟨by omega, by omega⟩ B m cb l hlv.l32 (fun p hp => ⟨hlv.pos p hp, by have := le_sum l hlv.pos p hp; have := hlv.sum; omega⟩) (by have := hlv.sum; omega) (by omega) (by omega) hcap.1 hcap.2 w hM hx
            have hcl2 : climb (5 - (k + 1)) ((k + 1 : Nat) : Int) (upP k l) (o ++ upO k l) = res := by
              rw [← hcl, show 5 - k = (5 - (k + 1)) + 1 by omega]
              conv => rhs; unfold climb
              rw [if_pos (by rcases hgo with h | h; exact .inl (by omega); exact .inr h)]
              congr 1
            have hol2 := hlv2.olen
            rw [List.length_append] at hol2
            generalize upP (k : Int) l = l2 at hlv2 HLEV hcl2
            generalize upO (k : Int) l = o2 at hlv2 HLEV hcl2 hol2
            obtain ⟨m2, hm2⟩ : ∃ x, l2.length = x := ⟨_, rfl⟩
            obtain ⟨q2, hq2⟩ : ∃ x, o2.length = x := ⟨_, rfl⟩
            rw [hm2, hq2] at HLEV
            have hqq : q + q2 ≤ 1000 := by omega
            have HOO : Hid (∀ v ∈ ovs o2, v.oneCell' = true) := ovs_cells _
            have HOS0 : Hid ((ocs (0, z32, [])).toArray.size = 34) := ocs_sz oz32
            have HM2 := Lib.hid hm2
            have HQ2 : Hid ((o ++ o2).length = q + q2) := by show _ = _; rw [List.length_append]; omega
            have HCL2 := Lib.hid hcl2
            have HLV2 := Lib.hid hlv2
            replace HLEV := Lib.hid HLEV
            replace hM := (hM.take (x := ownE 64 33 B m cb (pvs l)) (by (repeat (first | (with_reducible exact Take.head) | apply Take.tail)); first | done | fail)).freeze
            have hdec : k = 1 ∨ ((k : Int) == 1) = false ∧ decide (1 < (m : Int)) = true ∧ ¬ (k = 1) := by
              rcases hgo with h | h
              · exact .inl h
              · by_cases h2 : k = 1
                · exact .inl h2
                · exact .inr ⟨by simp; omega, by simp; omega, h2⟩
            clear hlv hcl hlm' hoq' hlen holen hcap hgo hlv2 hcl2 hol2 hm2 hq2 HLV HCL hlm hoq hone hm512
            rcases hdec with rfl | ⟨b1, b2, b3⟩
            · rw [show (((1 : Nat) : Int)) = 1 from rfl] at HLEV
              go_wp2_with (first | (go_at_call 77; have hM0 := hM; clear hM; (first | (with_reducible refine (HLEV.out _ _ hM0 (by (repeat (first | assumption | (with_reducible exact mZ) | apply mS)); first | done | fail)).mono ?_) | fail); clear hM0; rintro _ w ⟨B2, cb2, U2, cu2, rfl, hM⟩) | ((first | (have hM0 := hM; clear hM; refine BigFrame.wpList_want (by rfl) fun K hK => ws_append hM0 rfl rfl rfl 76 ((.agg (ocs (0, z32, [])).toArray)) 34 56 Try.underlying65 (by kernel_rfl) (by exact HOS0.out) (by decide) (by (repeat (first | (with_reducible exact Take.head) | apply Take.tail)); first | done | fail) (by first | (apply Star.row hM0; (repeat (first | assumption | (with_reducible exact mZ) | apply mS)); done) | (apply Star.own hM0; (repeat (first | assumption | (with_reducible exact mZ) | apply mS)); done) | (apply Star.arr hM0; (focus ((repeat (first | assumption | (with_reducible exact mZ) | apply mS)); done)); assumption)) (HOO.out) ((by omega)) (fun A2 c2 w hM hnil => hK _ _ ?_); clear hM0 hK K) | fail); simp only [Act.put, List.setIfInBounds_toArray, List.set_cons_zero, List.set_cons_succ])); go_roundw
              case rel => exact ⟨1 + 1, l2, o ++ o2, m2, q + q2, B2, cb2, A2, c2, by go_num, rfl, rfl, HM2.out, HQ2.out, HLV2.out, HCL2.out, by rw [ovs_app]; exact hM.sel (by repeat (first | (with_reducible exact Sel.refl) | (with_reducible exact Take.head) | (with_reducible apply Take.tail) | (with_reducible apply Sel.cons) | (with_reducible apply Sel.drop)))⟩
              case measure => simp [intOf]
            · go_wp2_with (first | (go_at_call 77; have hM0 := hM; clear hM; (first | (with_reducible refine (HLEV.out _ _ hM0 (by (repeat (first | assumption | (with_reducible exact mZ) | apply mS)); first | done | fail)).mono ?_) | fail); clear hM0; rintro _ w ⟨B2, cb2, U2, cu2, rfl, hM⟩) | ((first | (have hM0 := hM; clear hM; refine BigFrame.wpList_want (by rfl) fun K hK => ws_append hM0 rfl rfl rfl 76 ((.agg (ocs (0, z32, [])).toArray)) 34 56 Try.underlying65 (by kernel_rfl) (by exact HOS0.out) (by decide) (by (repeat (first | (with_reducible exact Take.head) | apply Take.tail)); first | done | fail) (by first | (apply Star.row hM0; (repeat (first | assumption | (with_reducible exact mZ) | apply mS)); done) | (apply Star.own hM0; (repeat (first | assumption | (with_reducible exact mZ) | apply mS)); done) | (apply Star.arr hM0; (focus ((repeat (first | assumption | (with_reducible exact mZ) | apply mS)); done)); assumption)) (HOO.out) ((by omega)) (fun A2 c2 w hM hnil => hK _ _ ?_); clear hM0 hK K) | fail); simp only [Act.put, List.setIfInBounds_toArray, List.set_cons_zero, List.set_cons_succ])); go_roundw
              case rel => exact ⟨k + 1, l2, o ++ o2, m2, q + q2, B2, cb2, A2, c2, by go_num, rfl, rfl, HM2.out, HQ2.out, HLV2.out, HCL2.out, by rw [ovs_app]; exact hM.sel (by repeat (first | (with_reducible exact Sel.refl) | (with_reducible exact Take.head) | (with_reducible apply Take.tail) | (with_reducible apply Sel.cons) | (with_reducible apply Sel.drop)))⟩
              case measure => simp [intOf]; omega
          · have hk1 : k ≠ 1 := fun h => hgo (.inl h)
            have hm1 : m = 1 := by
              have : ¬ (1 < l.length) := fun h => hgo (.inr h)
              omega
            subst hm1
            have b1 : ((k : Int) == 1) = false := by simp; omega
            have b3 : ¬ (k = 1) := hk1
            obtain ⟨d, rfl⟩ : ∃ d, l = [d] := by
              cases l with
              | nil => simp at hone
              | cons d t => exact ⟨d, by simp at hlm'; rw [hlm']⟩
            have hres : res = ([d], o) := by
              rw [← hcl, show 5 - k = (4 - k) + 1 by omega]
              unfold climb
              rw [if_neg (by rintro (h | h); exact hk1 (by omega); simp at h)]
            rw [hres] at HB
            have hd := hlv.l32 d (by simp)
            have HD := Lib.hid hd
            replace hM := (hM.take (x := ownE 64 33 B 1 cb (pvs [d])) (by (repeat (first | (with_reducible exact Take.head) | apply Take.tail)); first | done | fail)).freeze
            obtain ⟨ad, d', rfl, hc, hg, ht⟩ := Rd.elems (l := [d]) (f := pcs) (hM.row (A := B) (xs := pvs [d]) (by (repeat (first | assumption | (with_reducible exact mZ) | apply mS)); first | done | fail)) (fun x hx => pcs_len (hlv.l32 x hx)) (by omega) (show 0 < 1 by omega)
            obtain rfl : d = d' := by simpa using hg
            clear hlv hcl hlm' hlen holen hcap hgo HLV HCL hlm hone hm512 hg ht hres k1 k4 hk1 hd
            go_wp2_with (first | ((with_reducible refine at_load' ?_); refine BigFrame.wpList_want (by rfl) fun K hK => ws_load_at rfl rfl (pcs d) hc (n := 33) (pcs_len HD.out) (by decide +kernel) (hK _ _ ?_); clear hK K) | (first | (have hM0 := hM; clear hM; refine BigFrame.wpList_want (by rfl) fun K hK => ws_store hM0 rfl rfl rfl (by (repeat (first | (with_reducible exact Take.head) | apply Take.tail)); first | done | fail) (n := 33) (by exact pcs_sz HD.out) (by exact pcs_sz z32_32) (by kernel_rfl) (by exact pcs_oneA _) (fun w hM => hK _ _ ?_); clear hM0 hK K) | fail))
            refine bodyPost_ret (results_row_tmp2 (P := Try.prog) (ty := 64) rfl _ _ g2 64 (pcs d).toArray 33 _ _ rfl rfl rfl (hM.blk (by (repeat (first | assumption | (with_reducible exact mZ) | apply mS)); first | done | fail)) (pcs_sz HD.out) (by decide +kernel)) rfl ?_
            unfold PB
            rw [HB.out, hoq.out]
            exact ⟨_, _, rfl, ((hM.take (x := ownE 76 34 U q cu (ovs o)) (by (repeat (first | (with_reducible exact Take.head) | apply Take.tail)); first | done | fail)).freeze).sel (by repeat (first | (with_reducible exact Sel.refl) | (with_reducible exact Take.head) | (with_reducible apply Take.tail) | (with_reducible apply Sel.cons) | (with_reducible apply Sel.drop)))⟩
end Go.Proofs.Ytlhedbjjlomniaa
set_option linter.unusedSimpArgs false
set_option linter.unusedVariables false
namespace Go.Proofs.Ytlhedbjjlomniaa
/-- An object bears the name of its bytes. -/
def goodO (o : Ob) : Prop := ∃ kd : UInt8, o.1 = kd.toNat ∧ (kd = 1 ∨ kd = 2) ∧ o.2.1 = onm kd o.2.2 ∧ o.2.2.length ≤ 1000
theorem grp_mem {l : List Pt} {g : List Pt} (h : g ∈ grp l) : (∀ p ∈ g, p ∈ l) ∧ g.length ≤ 8 := by
  unfold grp at h
  obtain ⟨i, _, rfl⟩ := List.mem_map.1 h
  exact ⟨fun p hp => List.mem_of_mem_drop (List.mem_of_mem_take hp), by rw [List.length_take]; omega⟩
theorem leafO_good (cs : List (List UInt8)) (h : cs.all okCh = true) : ∀ o ∈ leafO cs, goodO o := by
  intro o ho
  obtain ⟨c, hc, rfl⟩ := List.mem_map.1 ho
  have := List.all_eq_true.1 h c hc
  unfold okCh at this
  simp only [decide_eq_true_eq] at this
  exact ⟨1, rfl, .inl rfl, rfl, by simp only; omega⟩
theorem upO_good (k : Int) (l : List Pt) (h : ok32 l) : ∀ o ∈ upO k l, goodO o := by
  intro o ho
  obtain ⟨g, hg, rfl⟩ := List.mem_map.1 ho
  obtain ⟨h1, h2⟩ := grp_mem hg
  exact ⟨2, rfl, .inr rfl, rfl, by have := textN_len (k, g) (fun p hp => h p (h1 p hp)) h2; simp only; omega⟩
theorem climb_good : ∀ (f : Nat) (k : Int) (l : List Pt) (o : List Ob), ok32 l → (∀ x ∈ o, goodO x) → (∀ x ∈ (climb f k l o).2, goodO x) ∧ ok32 (climb f k l o).1
  | 0, _, l, o, h1, h2 => ⟨h2, h1⟩
  | f + 1, k, l, o, h1, h2 => by
    unfold climb
    split
    · refine climb_good f (k + 1) _ _ (upP_32 k l) fun x hx => ?_
      rcases List.mem_append.1 hx with hx | hx
      · exact h2 x hx
      · exact upO_good k l h1 x hx
    · exact ⟨h2, h1⟩
theorem build_good (cs : List (List UInt8)) : (∀ o ∈ (buildB cs).2.1, goodO o) ∧ (buildB cs).1.1.length = 32 := by
  unfold buildB
  split
  · exact ⟨by simp, z32_len⟩
  split
  · exact ⟨by simp, z32_len⟩
  split
  · exact ⟨by simp, z32_len⟩
  · rename_i h _ _
    have h' : cs.all okCh = true := by simpa using h
    have hc := climb_good 4 1 (leafP cs) (leafO cs) (leafP_32 cs) (leafO_good cs h')
    refine ⟨hc.1, ?_⟩
    simp only
    cases hl : (climb 4 1 (leafP cs) (leafO cs)).1 with
    | nil => exact z32_len
    | cons p t => exact hc.2 p (by rw [hl]; exact List.mem_cons_self)
theorem good_32 {o : Ob} (h : goodO o) : o.2.1.length = 32 := by
  obtain ⟨kd, _, _, h, _⟩ := h
  rw [h]
  exact onm_len _ _
theorem climb_count : ∀ (f : Nat) (k : Nat) (l : List Pt) (o : List Ob), Lvl k l o → (climb f k l o).2.length ≤ 1000
  | 0, k, l, o, h => by have := h.olen; have := h.k4; unfold climb; simp only; omega
  | f + 1, k, l, o, h => by
    unfold climb
    split
    · rename_i hg
      have := climb_count f (k + 1) _ _ (h.up (by rcases hg with h | h; exact .inl (by omega); exact .inr h))
      exact this
    · have := h.olen; have := h.k4; simp only; omega
theorem build_count (cs : List (List UInt8)) (h : cs.length ≤ 200) : (buildB cs).2.1.length ≤ 1000 := by
  unfold buildB
  split
  · simp
  split
  · simp
  split
  · simp
  · rename_i h1 h2 h3
    have hpos := List.length_pos_iff.2 h2
    exact climb_count 4 1 _ _ ⟨by omega, by omega, by rw [leafP_len]; omega, by rw [leafP_len, if_pos rfl]; omega, leafO_32 _, leafP_32 _, leafP_pos _, by omega, by rw [leafO_len]; omega⟩
/-- One group. -/
theorem grp_one {l : List Pt} (h1 : 1 ≤ l.length) (h8 : l.length ≤ 8) : grp l = [l] := by
  unfold grp
  rw [show (l.length + 7) / 8 = 1 by omega]
  simp [List.take_of_length_le h8]
theorem upP_one (k : Int) {l : List Pt} (h1 : 1 ≤ l.length) (h8 : l.length ≤ 8) : upP k l = [(onm 2 (textN (k, l)), sumP l)] := by unfold upP; rw [grp_one h1 h8]; rfl
theorem upO_one (k : Int) {l : List Pt} (h1 : 1 ≤ l.length) (h8 : l.length ≤ 8) : upO k l = [(2, onm 2 (textN (k, l)), textN (k, l))] := by unfold upO; rw [grp_one h1 h8]; rfl
theorem climb_stop {l : List Pt} (o : List Ob) {k : Int} (hl : l.length ≤ 1) (hk : k ≠ 1) : ∀ f, climb f k l o = (l, o)
  | 0 => rfl
  | f + 1 => by unfold climb; rw [if_neg (by rintro (h | h); exact hk h; omega)]
theorem climb_go {f : Nat} {k : Int} {l : List Pt} {o : List Ob} (h : k = 1 ∨ 1 < l.length) : climb (f + 1) k l o = climb f (k + 1) (upP k l) (o ++ upO k l) := by
  conv => lhs; unfold climb
  rw [if_pos h]
/-- What few chunks become. -/
theorem build_few (cs : List (List UInt8)) (h : cs.all okCh = true) (h1 : 1 ≤ cs.length) (h8 : cs.length ≤ 8) :
    buildB cs = ((onm 2 (textN (1, leafP cs)), sumP (leafP cs)), leafO cs ++ [(2, onm 2 (textN (1, leafP cs)), textN (1, leafP cs))], 0) := by
  have hs := sumP_le 256 (leafP cs) fun p hp => by
    obtain ⟨g, hg, rfl⟩ := List.mem_map.1 hp
    have h1 := List.all_eq_true.1 h g hg
    unfold okCh at h1
    simp only [decide_eq_true_eq] at h1
    simp only
    omega
  rw [leafP_len] at hs
  have hl := leafP_len cs
  unfold buildB
  rw [if_neg (by simp [h]), if_neg (by rintro rfl; simp at h1), if_neg (by omega), climb_go (.inl rfl), upP_one 1 (by omega) (by omega), upO_one 1 (by omega) (by omega), climb_stop _ (by simp) (by omega)]
  rfl
theorem firstBad_good {m : Int} : ∀ {l : List Pt}, (∀ p ∈ l, 1 ≤ p.2 ∧ p.2 ≤ m) → firstBad m l = 0
  | [], _ => rfl
  | p :: l, h => by
    have h1 := h p List.mem_cons_self
    rw [firstBad_cons, if_neg (by omega), if_neg (by omega)]
    exact firstBad_good fun q hq => h q (List.mem_cons_of_mem _ hq)
theorem checkN_good {k : Int} {l : List Pt} (h1 : 1 ≤ k ∧ k ≤ 8) (h2 : 1 ≤ l.length ∧ l.length ≤ 8) (h3 : ∀ p ∈ l, 1 ≤ p.2 ∧ p.2 ≤ mostN k) (h4 : sumP l ≤ 32768) : checkN (k, l) = 0 := by
  unfold checkN
  simp only
  rw [firstBad_good h3]
  repeat' split
  all_goals first | rfl | omega
end Go.Proofs.Ytlhedbjjlomniaa
set_option linter.unusedSimpArgs false
set_option linter.unusedVariables false
namespace Go.Proofs.Ytlhedbjjlomniaa
open Go.RowKit
attribute [local go_sem] extract_mid extract_drop bget bsize wrap64_u8 i64_u8 u64_u8 bappend
theorem Rd.flat {w : World} {A : Option Addr} {n size : Nat} {xs : List Value} (h : Rd w size A n xs) (hs : 0 < size) : Rd w 1 A (n * size) xs :=
  ⟨by rw [h.1, Nat.mul_one], fun hn => h.2 (by rcases Nat.eq_zero_or_pos n with rfl | h; simp at hn; exact h)⟩
theorem Star.flat {L : List SProp} {w : World} {A : Option Addr} {n size : Nat} {xs : List Value} (h : Star L w) (hx : rowE size A n xs ∈ L) (hs : 0 < size) : Star (rowE 1 A (n * size) xs :: L) w :=
  h.view hx rfl rfl (fun k ⟨ad, e, hn, hk⟩ => ⟨ad, e, by rcases Nat.eq_zero_or_pos n with rfl | h; simp at hn; exact h, hk⟩) ((h.row hx).flat hs)
theorem add_mk (ad : Addr) (j m : Nat) (hm : 0 < m) : (⟨(ad.add j).block, (ad.add j).off + m, none⟩ : Addr) = ad.add (j + m) := by
  unfold Addr.add
  rw [if_neg (show ¬ (j + m = 0) by omega)]
  split
  · rename_i h
    subst h
    simp
  · simp only [Addr.mk.injEq, and_true, true_and]
    omega
/-- Some cells of a row. -/
theorem Rd.part {w : World} {ad : Addr} {n size o : Nat} {xs cs : List Value} (h : Rd w size (some ad) n xs) (hn : 0 < n) (hs : ∀ j v, cs[j]? = some v → xs[o + j]? = some v) : ∀ j v, cs[j]? = some v → w.cell? ((ad.add o).add j) = some v := by
  intro j v hj
  obtain ⟨ad', e, _, hc⟩ := h.2 hn
  injection e with e
  subst e
  rw [add_of_add]
  exact hc _ v (hs j v hj)
end Go.Proofs.Ytlhedbjjlomniaa
set_option linter.unusedSimpArgs false
set_option linter.unusedVariables false
namespace Go.Proofs.Ytlhedbjjlomniaa
open Go.RowKit
attribute [local go_sem] extract_mid extract_drop bget bsize wrap64_u8 i64_u8 u64_u8 bappend
theorem ovs_tx {l : List Ob} (h32 : ob32 l) {k : Nat} {d : Ob} (hd : l[k]? = some d) : (ovs l)[k * 34 + 33]? = some (.string ⟨d.2.2.toArray⟩) :=
  flat_get ocs 34 l (fun x hx => ocs_len (h32 x hx)) k d hd 33 _ (by have := ocs_33 (h32 d (List.mem_of_getElem? hd)); simpa using this)
end Go.Proofs.Ytlhedbjjlomniaa
set_option linter.unusedSimpArgs false
set_option linter.unusedVariables false
namespace Go.Proofs.Ytlhedbjjlomniaa
set_option maxRecDepth 100000
theorem name_ab : onm 1 [97, 98] = [160, 20, 34, 175, 198, 129, 201, 131, 187, 39, 190, 46, 50, 174, 40, 56, 230, 223, 126, 12, 136, 72, 250, 120, 253, 3, 194, 136, 23, 159, 117, 151] := by decide +kernel
theorem name_c : onm 1 [99] = [83, 255, 205, 7, 184, 251, 175, 126, 241, 200, 245, 248, 114, 101, 63, 198, 149, 27, 193, 214, 207, 232, 193, 124, 233, 80, 105, 183, 234, 142, 41, 143] := by decide +kernel
theorem text_abc : textN (1, [([160, 20, 34, 175, 198, 129, 201, 131, 187, 39, 190, 46, 50, 174, 40, 56, 230, 223, 126, 12, 136, 72, 250, 120, 253, 3, 194, 136, 23, 159, 117, 151], 2), ([83, 255, 205, 7, 184, 251, 175, 126, 241, 200, 245, 248, 114, 101, 63, 198, 149, 27, 193, 214, 207, 232, 193, 124, 233, 80, 105, 183, 234, 142, 41, 143], 1)]) = [1, 1, 1, 2] ++ ([160, 20, 34, 175, 198, 129, 201, 131, 187, 39, 190, 46, 50, 174, 40, 56, 230, 223, 126, 12, 136, 72, 250, 120, 253, 3, 194, 136, 23, 159, 117, 151] ++ ([1, 2] ++ ([83, 255, 205, 7, 184, 251, 175, 126, 241, 200, 245, 248, 114, 101, 63, 198, 149, 27, 193, 214, 207, 232, 193, 124, 233, 80, 105, 183, 234, 142, 41, 143] ++ [1, 1]))) := by decide +kernel
theorem head_ab : (onm 2 [97, 98]).head? = some 84 := by decide +kernel
theorem head_abc : (onm 2 ([1, 1, 1, 2] ++ ([160, 20, 34, 175, 198, 129, 201, 131, 187, 39, 190, 46, 50, 174, 40, 56, 230, 223, 126, 12, 136, 72, 250, 120, 253, 3, 194, 136, 23, 159, 117, 151] ++ ([1, 2] ++ ([83, 255, 205, 7, 184, 251, 175, 126, 241, 200, 245, 248, 114, 101, 63, 198, 149, 27, 193, 214, 207, 232, 193, 124, 233, 80, 105, 183, 234, 142, 41, 143] ++ [1, 1]))))).head? = some 151 := by decide +kernel
theorem ne_ab : onm 2 [97, 98] ≠ onm 2 (textN (1, [(onm 1 [97, 98], 2), (onm 1 [99], 1)])) := by
  rw [name_ab, name_c, text_abc]
  intro h
  have h1 := head_ab
  rw [h, head_abc] at h1
  revert h1
  decide
theorem build_abc : ∃ (id1 id2 tx rid : List UInt8), onm 1 [97, 98] = id1 ∧ onm 1 [99] = id2 ∧ onm 2 tx = rid ∧ onm 2 [97, 98] ≠ rid ∧ id1.length = 32 ∧ id2.length = 32 ∧ rid.length = 32 ∧ tx.length ≤ 1000 ∧ parseN tx = ((1, [(id1, 2), (id2, 1)]), 0) ∧ buildB [[97, 98], [99]] = ((rid, 3), [(1, id1, [97, 98]), (1, id2, [99]), (2, rid, tx)], 0) := by
  have l1 : (onm 1 [97, 98]).length = 32 := onm_len _ _
  have l2 : (onm 1 [99]).length = 32 := onm_len _ _
  have hb := build_few [[97, 98], [99]] (by decide) (by decide) (by decide)
  have hne := ne_ab
  have hlp : leafP [[97, 98], [99]] = [(onm 1 [97, 98], 2), (onm 1 [99], 1)] := by simp [leafP]
  have hlo : leafO [[97, 98], [99]] = [(1, onm 1 [97, 98], [97, 98]), (1, onm 1 [99], [99])] := by simp [leafO]
  rw [hlp, hlo] at hb
  obtain ⟨id1, h1⟩ : ∃ x, onm 1 [97, 98] = x := ⟨_, rfl⟩
  obtain ⟨id2, h2⟩ : ∃ x, onm 1 [99] = x := ⟨_, rfl⟩
  rw [h1] at hb hne l1
  rw [h2] at hb hne l2
  obtain ⟨tx, h3⟩ : ∃ x, textN (1, [(id1, 2), (id2, 1)]) = x := ⟨_, rfl⟩
  obtain ⟨rid, h4⟩ : ∃ x, onm 2 tx = x := ⟨_, rfl⟩
  have h32 : ok32 [(id1, 2), (id2, 1)] := by intro p hp; simp at hp; rcases hp with rfl | rfl <;> assumption
  have htl := textN_len (1, [(id1, 2), (id2, 1)]) h32 (by simp)
  have hpt := parseN_text (n := (1, [(id1, 2), (id2, 1)])) (checkN_good (by omega) (by simp) (by intro p hp; simp at hp; have := (mostN_le 1).1; rcases hp with rfl | rfl <;> simp only <;> omega) (by simp [sumP])) h32
  have hrl : (onm 2 tx).length = 32 := onm_len _ _
  rw [h3] at hb hne htl hpt
  rw [h4] at hb hne hrl
  refine ⟨id1, id2, tx, rid, h1, h2, h4, hne, l1, l2, hrl, by omega, hpt, ?_⟩
  rw [hb]
  simp [sumP]
end Go.Proofs.Ytlhedbjjlomniaa
set_option linter.unusedSimpArgs false
set_option linter.unusedVariables false
namespace Go.Proofs.Ytlhedbjjlomniaa
/-- A step: its part, its level. -/
abbrev Stp := Pt × Int
structure Wv where
  left : List Stp
  out : List UInt8
  got : Nat
def kindB (s : Stp) : UInt8 := if s.2 = 0 then 1 else 2
def giveW (w : Wv) (x : List UInt8) : Wv × Int :=
  match w.left with
  | [] => (w, 15)
  | s :: rest =>
    if onm (kindB s) x ≠ s.1.1 then (w, 3)
    else if s.2 = 0 then (if (x.length : Int) ≠ s.1.2 then (w, 2) else (⟨rest, w.out ++ x, w.got + 1⟩, 0))
    else if (parseN x).2 ≠ 0 then (w, (parseN x).2)
    else if (0 < s.2 ∧ (parseN x).1.1 ≠ s.2) ∨ sumP (parseN x).1.2 ≠ s.1.2 then (w, 2)
    else (⟨((parseN x).1.2.map fun p => (p, (parseN x).1.1 - 1)) ++ rest, w.out, w.got + 1⟩, 0)
/-- What holds of a weave, q calls on. -/
structure Wok (q : Nat) (w : Wv) : Prop where
  len : w.left.length ≤ 1 + 8 * q
  out : w.out.length ≤ 32768 * q
  got : w.got ≤ q
  step : ∀ s ∈ w.left, s.1.1.length = 32 ∧ 1 ≤ s.1.2 ∧ s.1.2 ≤ 32768 ∧ -1 ≤ s.2 ∧ s.2 ≤ 8
theorem Wok.more {q : Nat} {w : Wv} (h : Wok q w) : Wok (q + 1) w := ⟨by have := h.len; omega, by have := h.out; omega, by have := h.got; omega, h.step⟩
theorem Wok.give {q : Nat} {w : Wv} (h : Wok q w) (x : List UInt8) : Wok (q + 1) (giveW w x).1 := by
  have hm := h.more
  unfold giveW
  split
  · exact hm
  · rename_i s rest hs
    split
    · exact hm
    split
    · split
      · exact hm
      · rename_i _ _ hx
        have h1 := h.step s (by rw [hs]; exact List.mem_cons_self)
        refine ⟨?_, ?_, ?_, fun t ht => h.step t (by rw [hs]; exact List.mem_cons_of_mem _ ht)⟩
        · have := h.len; rw [hs] at this; simp only [List.length_cons] at this; simp only; omega
        · have := h.out; simp only [List.length_append]; omega
        · have := h.got; simp only; omega
    split
    · exact hm
    split
    · exact hm
    · rename_i _ _ hp _
      have hg := parseN_good x
      rcases hg with ⟨_, h1⟩ | ⟨_, h1, _, h2⟩
      · exact absurd h1 hp
      · have hc := checkN_ok h1
        refine ⟨?_, by have := h.out; simp only; omega, by have := h.got; simp only; omega, fun t ht => ?_⟩
        · have := h.len; rw [hs] at this; simp only [List.length_cons] at this; simp only [List.length_append, List.length_map]; omega
        · rcases List.mem_append.1 ht with ht | ht
          · obtain ⟨p, hp2, rfl⟩ := List.mem_map.1 ht
            have h3 := h2 p hp2
            have h4 := hc.2.2.2.2.1 p hp2
            simp only
            omega
          · exact h.step t (by rw [hs]; exact List.mem_cons_of_mem _ ht)
/-- A step's cells in the program (34), in the reference (3); a want's (34). -/
@[irreducible] def tcs (s : Stp) : List Value := pcs s.1 ++ [iv s.2]
def tvs (l : List Stp) : List Value := l.flatMap tcs
def uscs (s : Stp) : List Value := [sv s.1.1, iv s.1.2, iv s.2]
def usvs (l : List Stp) : List Value := l.flatMap uscs
@[irreducible] def wcs (k : Int) (p : Pt) : List Value := iv k :: pcs p
def wnts (l : List (Int × Pt)) : List Value := l.flatMap fun x => wcs x.1 x.2
theorem tcs_len {s : Stp} (h : s.1.1.length = 32) : (tcs s).length = 34 := by unfold tcs; simp [pcs_len h]
theorem tcs_sz {s : Stp} (h : s.1.1.length = 32) : (tcs s).toArray.size = 34 := by rw [List.size_toArray]; exact tcs_len h
theorem tcs_pt (s : Stp) : ∀ j v, (pcs s.1)[j]? = some v → (tcs s).toArray[0 + j]? = some v := by
  intro j v hv
  have hj := (List.getElem?_eq_some_iff.1 hv).1
  unfold tcs
  rw [Nat.zero_add, List.getElem?_toArray, List.getElem?_append_left hj]
  exact hv
theorem tcs_sz32 {s : Stp} (h : s.1.1.length = 32) : (tcs s).toArray[32]? = some (.int .i64 s.1.2) := by
  have := tcs_pt s 32 _ (by have := pcs_32 h; simpa using this)
  simpa using this
theorem tcs_33 {s : Stp} (h : s.1.1.length = 32) : (tcs s).toArray[33]? = some (.int .i64 s.2) := by
  unfold tcs
  rw [List.getElem?_toArray, List.getElem?_append_right (by rw [pcs_len h]; omega)]
  simp [pcs_len h, iv]
theorem tcs_one (s : Stp) : ∀ v ∈ tcs s, v.oneCell' = true := by
  unfold tcs
  intro v hv
  simp only [List.mem_append, List.mem_cons, List.not_mem_nil, or_false] at hv
  rcases hv with hv | rfl
  · exact pcs_one _ v hv
  · rfl
theorem tcs_oneA (s : Stp) : ∀ v ∈ (tcs s).toArray.toList, v.oneCell' = true := by simpa using tcs_one s
theorem tvs_app (a b : List Stp) : tvs (a ++ b) = tvs a ++ tvs b := by simp [tvs]
theorem tvs_cells (l : List Stp) : ∀ v ∈ tvs l, v.oneCell' = true := by
  intro u hu
  obtain ⟨c, _, h⟩ := List.mem_flatMap.1 hu
  exact tcs_one c u h
theorem usvs_app (a b : List Stp) : usvs (a ++ b) = usvs a ++ usvs b := by simp [usvs]
theorem usvs_cells (l : List Stp) : ∀ v ∈ usvs l, v.oneCell' = true := by
  intro u hu
  obtain ⟨c, _, h⟩ := List.mem_flatMap.1 hu
  simp only [uscs, List.mem_cons, List.not_mem_nil, or_false] at h
  rcases h with rfl | rfl | rfl <;> rfl
theorem wcs_len {k : Int} {p : Pt} (h : p.1.length = 32) : (wcs k p).length = 34 := by unfold wcs; simp [pcs_len h]
theorem wcs_sz {k : Int} {p : Pt} (h : p.1.length = 32) : (wcs k p).toArray.size = 34 := by rw [List.size_toArray]; exact wcs_len h
theorem wcs_0 (k : Int) (p : Pt) : (wcs k p).toArray[0]? = some (.int .i64 k) := by unfold wcs; simp [iv]
theorem wcs_pt (k : Int) (p : Pt) : ∀ j v, (pcs p)[j]? = some v → (wcs k p).toArray[1 + j]? = some v := by
  intro j v hv
  unfold wcs
  rw [Nat.add_comm, List.getElem?_toArray, List.getElem?_cons_succ]
  exact hv
theorem wcs_id (k : Int) (p : Pt) : ∀ j v, (bvs p.1)[j]? = some v → (wcs k p).toArray[1 + j]? = some v := fun j v hj => wcs_pt k p j v (by have := pcs_id p j v hj; simpa using this)
theorem wcs_33 (k : Int) {p : Pt} (h : p.1.length = 32) : (wcs k p).toArray[33]? = some (.int .i64 p.2) := wcs_pt k p 32 _ (by have := pcs_32 h; simpa using this)
theorem wcs_one (k : Int) (p : Pt) : ∀ v ∈ wcs k p, v.oneCell' = true := by
  unfold wcs
  intro v hv
  rcases List.mem_cons.1 hv with rfl | hv
  · rfl
  · exact pcs_one _ v hv
theorem wcs_oneA (k : Int) (p : Pt) : ∀ v ∈ (wcs k p).toArray.toList, v.oneCell' = true := by simpa using wcs_one k p
theorem wnts_app (a b : List (Int × Pt)) : wnts (a ++ b) = wnts a ++ wnts b := by simp [wnts]
theorem wnts_cells (l : List (Int × Pt)) : ∀ v ∈ wnts l, v.oneCell' = true := by
  intro u hu
  obtain ⟨c, _, h⟩ := List.mem_flatMap.1 hu
  exact wcs_one _ _ u h
def okS (l : List Stp) : Prop := ∀ s ∈ l, s.1.1.length = 32
theorem tvs_get {l : List Stp} (h : okS l) {k : Nat} {s : Stp} (hk : l[k]? = some s) : ∀ j v, (tcs s)[j]? = some v → (tvs l)[k * 34 + j]? = some v := fun j v hj => flat_get tcs 34 l (fun x hx => tcs_len (h x hx)) k s hk j v hj
theorem tvs_take {l : List Stp} (h : okS l) (k : Nat) : (tvs l).take (k * 34) = tvs (l.take k) := by
  induction l generalizing k with
  | nil => simp [tvs]
  | cons s l ih =>
    cases k with
    | zero => simp [tvs]
    | succ k =>
      have h1 := tcs_len (h s List.mem_cons_self)
      have h2 := ih (fun x hx => h x (List.mem_cons_of_mem _ hx)) k
      unfold tvs at h2 ⊢
      rw [List.flatMap_cons, List.take_succ_cons, List.flatMap_cons, ← h2, show (k + 1) * 34 = (tcs s).length + k * 34 by rw [h1]; omega, List.take_length_add_append]
theorem info_stp : (Try.prog.info? 135).map (fun i => i.zero) = some (some (.agg (tcs ((z32, 0), 0)).toArray)) := by unfold tcs pcs; kernel_rfl
theorem info_wnt : (Try.prog.info? 131).map (fun i => i.zero) = some (some (.agg (wcs 0 (z32, 0)).toArray)) := by unfold wcs pcs; kernel_rfl
theorem build_stp (id : List UInt8) (h : id.length = 32) (s lv : Int) (w : World) : (Instr.build 135 #[(0, .agg (pcs (id, s)).toArray), (1, .int .i64 lv)]).run Try.prog w = .ok (.agg (tcs ((id, s), lv)).toArray) w := by
  obtain ⟨f, rfl⟩ := list32 h
  unfold tcs pcs
  kernel_rfl
theorem build_wnt (k : Int) (id : List UInt8) (h : id.length = 32) (s : Int) (w : World) : (Instr.build 131 #[(0, .int .i64 k), (1, .agg (pcs (id, s)).toArray)]).run Try.prog w = .ok (.agg (wcs k (id, s)).toArray) w := by
  obtain ⟨f, rfl⟩ := list32 h
  unfold wcs pcs
  kernel_rfl
theorem build_wnt0 (w : World) : (Instr.build 131 #[]).run Try.prog w = .ok (.agg (wcs 0 (z32, 0)).toArray) w := by
  unfold wcs pcs z32
  kernel_rfl
end Go.Proofs.Ytlhedbjjlomniaa
set_option linter.unusedSimpArgs false
set_option linter.unusedVariables false
namespace Go.Proofs.Ytlhedbjjlomniaa
open Go.RowKit
attribute [local go_sem] extract_mid extract_drop bget bsize wrap64_u8 i64_u8 u64_u8 bappend
theorem Tail.shrink {w : World} {e : TypeId} {size : Nat} {A : Option Addr} {n c : Nat} {xs : List Value} (h : Tail w e size A n c xs) {k : Nat} (hk : k ≤ n) : Tail w e size A k c (xs.take (k * size)) := by
  obtain ⟨h1, h2, h3, h4⟩ := h
  have hks : k * size ≤ n * size := Nat.mul_le_mul_right _ hk
  refine ⟨by rw [List.length_take, h1]; omega, by omega, h3, ?_⟩
  rcases h4 with h4 | ⟨g, off, cur, hA, hb, hs, hx⟩
  · exact .inl h4
  · exact .inr ⟨g, off, cur, hA, hb, hs, by rw [← hx, List.take_take]; congr 1; omega⟩
/-- The last elements are cut off. -/
theorem Star.tail_shrink {L : List SProp} {w : World} {e : TypeId} {size n c : Nat} {A : Option Addr} {xs : List Value} (h : Star (tailE e size A n c xs :: L) w) {k : Nat} (hk : k ≤ n) : Star (tailE e size A k c (xs.take (k * size)) :: L) w :=
  h.as_ rfl (fun _ hk => hk) fun h => Tail.shrink h hk
theorem Tail.cap {w : World} {e : TypeId} {size : Nat} {A : Option Addr} {n c : Nat} {xs : List Value} (h : Tail w e size A n c xs) : n ≤ c ∧ c ≤ 9223372036854775807 := by
  obtain ⟨_, h2, h3, _⟩ := h
  unfold maxLen at h3
  omega
/-- A slice that begins at its block's head. -/
def headA (A : Option Addr) : Prop := ∀ ad, A = some ad → ∃ g, ad = ⟨g, 0, none⟩
theorem headA_none : headA none := fun _ h => by cases h
section
variable {P : Program} {w : World} {o : Oper} {a : Act} {Q : Exit → Act → World → Prop} {L R : List SProp} {K : Act → World → Prop}
/-- append onto a tail that begins at its block's head. -/
theorem ws_app_head (hM : Star L w) {s x : Operand} {t tx : TypeId} (ho : o.op = .call { callee := .builtin .append, args := #[s, x], argTypes := #[t, tx] })
    {B : Option Addr} {n c0 : Nat} (hs : a.eval s = .slice B n c0) (hH : headA B)
    (e : TypeId) (z : Value) (size bytes : Nat) (ht : P.underlying t = some (.slice e)) (hi : (P.info? e).map (fun i => (i.zero, i.size, i.bytes)) = some (some z, size, bytes)) (hzs : z.cells.size = size)
    {xs : List Value} (hb : Take (tailE e size B n c0 xs) L R) {m : Nat} {news : List Value} (hr : Src P size tx (a.eval x) m news w) (hbytes : (n + m) * (bytes + 1) ≤ 140737488355328)
    (h : ∀ A' c' w1, headA A' → Star (tailE e size A' (n + m) c' (xs ++ news) :: R) w1 → K (a.put o.dst (.slice A' (n + m) c')) w1) : Oper.wp P o a w K Q := by
  obtain ⟨i, hi0, hz, hsize, hby⟩ := info_parts hi
  have hb2 : (n + m) * bytes ≤ 140737488355328 := Nat.le_trans (Nat.mul_le_mul_left _ (Nat.le_succ _)) hbytes
  have h63 : n + m ≤ maxLen := by
    have : (n + m) * 1 ≤ (n + m) * (bytes + 1) := Nat.mul_le_mul_left _ (by omega)
    unfold maxLen; omega
  have hT : Tail w e size B n c0 xs := (hM.take hb).head
  have hT' : Tail w.drew e size B n c0 xs := hT
  have hfirst := hT'.first P
  subst hsize hby
  unfold Oper.wp execOp
  simp only [ho, resolve, invoke, builtin, Sem.run_bind, Sem.run_pure, Result.andThen_ok, List.map_toArray, List.map_cons, List.map_nil, hs]
  have hnl := hr.newsLen
  by_cases hroom : n + m ≤ c0
  · obtain ⟨h1, h2, h3, ⟨rfl, rfl⟩ | ⟨g, off, cur, rfl, hB, hS, hX⟩⟩ := hT
    · obtain ⟨rfl, rfl⟩ : n = 0 ∧ m = 0 := by omega
      obtain rfl : xs = [] := List.eq_nil_of_length_eq_zero (by simpa using h1)
      obtain rfl : news = [] := List.eq_nil_of_length_eq_zero (by simpa using hnl)
      have hrun : (Builtin.append_ #[t, tx] o.type #[.slice none 0 0, a.eval x]).run P w = .ok (.slice none 0 0) w := by
        rcases hr.kind with ⟨e', hk⟩ | hk <;> simp [Builtin.append_, run_underlying ht, run_underlying hk, sizeOf, typeInfo, hi0, hr.len, hr.cells]
      rw [hrun]
      exact h none 0 w headA_none (by simpa using hM.take hb)
    · have hmc : (n + m) * i.size ≤ c0 * i.size := Nat.mul_le_mul_right _ hroom
      rw [Nat.add_mul] at hmc
      have hrun : (Builtin.append_ #[t, tx] o.type #[.slice (some ⟨g, off, none⟩) n c0, a.eval x]).run P w = .ok (.slice (some ⟨g, off, none⟩) (n + m) c0) (w.setRow g (cur.toList.take (off + n * i.size) ++ news ++ cur.toList.drop (off + n * i.size + m * i.size)).toArray) := by
        have hst := run_storeCells_at P g (off + n * i.size) e news 0 cur w hB (by rw [hnl]; omega) hr.one
        simp only [Nat.add_zero, hnl] at hst
        rcases hr.kind with ⟨e', hk⟩ | hk <;> simp [Builtin.append_, run_underlying ht, run_underlying hk, sizeOf, typeInfo, hi0, hr.len, hroom, hr.cells, Addr.add_lit, hst]
      rw [hrun]
      refine h _ _ _ hH ((hM.take hb).put (bs := [g]) rfl (setRow_ch w g _) (fun b hb => .inl (by rcases List.mem_singleton.1 hb with rfl; exact ⟨_, rfl, rfl⟩)) ⟨?_, hroom, h3, .inr ⟨g, off, _, rfl, setRow_blk hB _, ?_, ?_⟩⟩ fun k hk => .inl hk)
      · rw [List.length_append, h1, hnl, Nat.add_mul]
      · simp only [List.size_toArray, List.length_append, List.length_take, List.length_drop, Array.length_toList, hnl]; omega
      · simp only [List.toList_toArray]
        have hto : (cur.toList.take (off + n * i.size)).drop off = xs := by rw [← hX, List.drop_take]; congr 1; omega
        have hl1 : off ≤ (cur.toList.take (off + n * i.size)).length := by simp; omega
        rw [List.append_assoc, List.drop_append_of_le_length hl1, hto, ← List.append_assoc]
        rw [List.take_append_of_le_length (by rw [List.length_append, h1, hnl, Nat.add_mul]; omega)]
        rw [List.take_of_length_le (by rw [List.length_append, h1, hnl, Nat.add_mul]; omega)]
  · have hrun := run_append_grow_src (P := P) w t tx o.type e i z ht hi0 hz B n c0 xs hfirst (a.eval x) m news hr (by omega) (by unfold maxLen at h63; omega) (growslice_fits (by omega) hb2)
    rw [hrun]
    have hge := grownCap_ge w (n + m) c0 e
    have hcm : grownCap w (n + m) c0 e ≤ maxLen := grownCap_le_maxLen w (n + m) c0 e h63
    obtain ⟨h1, h2, h3, _⟩ := hT
    have hlen : (xs ++ news).length = (n + m) * i.size := by rw [List.length_append, h1, hnl, Nat.add_mul]
    refine h _ _ _ (fun ad e => by injection e with e; exact ⟨_, e.symm⟩) ((hM.drop_ hb).new_ ((Ch.refl _ _).drew.alloc _) ⟨hlen, hge, hcm, .inr ⟨w.heap.size, 0, _, rfl, heap_alloc_new w.drew _, ?_, ?_⟩⟩ fun k ⟨ad, e, hk⟩ => by injection e with e; subst e; rw [hk]; exact Nat.le_refl _)
    · simp only [Array.size_append, List.size_toArray, size_zeroCells, hzs, hlen, ← Nat.add_mul, Nat.zero_add]
      rw [show n + m + (grownCap w (n + m) c0 e - (n + m)) = grownCap w (n + m) c0 e by omega]
      exact Nat.le_refl _
    · simp only [Array.toList_append, List.drop_zero]
      rw [← hlen]
      exact List.take_left
end
/-- Bytes that a builder holds, behind its String too. -/
def heldE (A : Option Addr) (l : List UInt8) : SProp where
  fp k := ∃ ad, A = some ad ∧ k = ad.block
  ro := false
  holds w := (A = none ∧ l = []) ∨ ∃ (g : Nat) (cur : Array Value) (fr : Nat × Nat), A = some ⟨g, 0, none⟩ ∧ w.heap[g]? = some (.cells cur 5 fr) ∧ l.length ≤ cur.size ∧ l ≠ [] ∧ l.length ≤ 9223372036854775807 ∧ ∀ (j : Nat) (x : UInt8), l[j]? = some x → cur[j]? = some (Value.int .u8 x.toNat)
  lt w h k hk := by
    obtain ⟨ad, rfl, rfl⟩ := hk
    rcases h with ⟨h, _⟩ | ⟨g, cur, fr, hA, hb, _⟩
    · cases h
    · injection hA with hA
      subst hA
      exact (Array.getElem?_eq_some_iff.1 hb).1
  stable w w' ho h := by
    rcases h with h | ⟨g, cur, fr, hA, hb, hr⟩
    · exact .inl h
    · exact .inr ⟨g, cur, fr, hA, (ho.block g ⟨_, hA, rfl⟩).trans hb, hr⟩
theorem Star.held_of_tail {L : List SProp} {w : World} {A : Option Addr} {n c : Nat} {l : List UInt8} (h : Star (tailE 5 1 A n c (bvs l) :: L) w) (hH : headA A) (h0 : l ≠ [] ∨ A = none) : Star (heldE A l :: L) w :=
  h.as_ rfl (fun _ hk => hk) fun h => by
    obtain ⟨h1, h2, h3, ⟨rfl, rfl⟩ | ⟨g, off, cur, rfl, hb, hs, hx⟩⟩ := h
    · refine .inl ⟨rfl, ?_⟩
      rw [bvs_len] at h1
      exact List.eq_nil_of_length_eq_zero (by omega)
    · obtain ⟨g', e⟩ := hH _ rfl
      injection e with e1 e2 e3
      subst e1 e2
      rcases h0 with h0 | h0
      · rw [bvs_len] at h1
        refine .inr ⟨g, cur, (0, 0), rfl, hb, by omega, h0, by unfold maxLen at h3; omega, fun j x hj => ?_⟩
        have hjl := (List.getElem?_eq_some_iff.1 hj).1
        have e : (bvs l)[j]? = some (.int .u8 x.toNat) := by simp [bvs, hj, bv]
        rw [← hx, List.getElem?_take, if_pos (by omega), List.drop_zero] at e
        simpa using e
      · cases h0
abbrev wvC (A : Option Addr) (n c : Nat) (q B : Option Addr) (m d : Nat) (got : Int) : Array Value := #[.slice A n c, .pointer q, .slice B m d, .int .i64 got]
abbrev wvE (b : Nat) (A : Option Addr) (n c : Nat) (q B : Option Addr) (m d : Nat) (got : Int) : SProp := cellsE b 141 (wvC A n c q B m d got)
section
variable {F : List SProp} {b n c m d : Nat} {A B q : Option Addr} {got : Int}
set_option maxRecDepth 100000 in
theorem blen_w (w : World) (hM : Star F w) (hx : wvE b A n c q B m d got ∈ F) : Calls Try.prog 86 #[.pointer (some ⟨b, 1, none⟩)] w fun r w' => r = .returned (.int .i64 m) ∧ Star F w' := by
  go_enter Try.func86, Try.ntmps86
  go_wp2_with (first | (first | (refine BigFrame.wpList_want (by rfl) fun K hK => ws_load1 hM rfl rfl (by (repeat (first | assumption | (with_reducible exact mZ) | apply mS)); first | done | fail) (by first | rfl | assumption) (by decide +kernel) (hK _ _ ?_); clear hK K) | fail))
  go_ret
  exact ⟨rfl, hM⟩
set_option maxRecDepth 100000 in
theorem ccheck_used_w (w : World) (hM : Star F w) (hb : wvE b A n c (some ⟨b, 1, none⟩) B m d got ∈ F) :
    Calls Try.prog 107 #[.pointer (some ⟨b, 1, none⟩)] w fun r w' => r = .returned (.tuple #[]) ∧ Star F w' := by
  obtain ⟨j, hj⟩ : ∃ j, Try.prog.info? 139 = some j := ⟨_, rfl⟩
  go_enter Try.func107, Try.ntmps107
  go_wp2_with (first | (first | (refine BigFrame.wpList_want (by rfl) fun K hK => ws_load1 hM rfl rfl (by (repeat (first | assumption | (with_reducible exact mZ) | apply mS)); first | done | fail) (by first | rfl | assumption) (by decide +kernel) (hK _ _ ?_); clear hK K) | fail))
  rw [Lib.run_neq_ptr_same w _ Try.underlying137 hj]
  go_wp2
  go_end0
  exact ⟨rfl, hM⟩
set_option maxRecDepth 100000 in
theorem ccheck_fresh_w (w : World) (hM : Star (wvE b A n c none B m d got :: F) w) :
    Calls Try.prog 107 #[.pointer (some ⟨b, 1, none⟩)] w fun r w' => r = .returned (.tuple #[]) ∧ Star (wvE b A n c (some ⟨b, 1, none⟩) B m d got :: F) w' := by
  have hB : Blk w b 141 (wvC A n c none B m d got) := hM.head
  have hsh : w.shape? b = some (141, 4) := by unfold Blk at hB; simp [World.shape?, hB]
  obtain ⟨j, hj, hjs⟩ : ∃ j, Try.prog.info? 139 = some j ∧ j.size = 2 := ⟨_, rfl, rfl⟩
  have hlies : liesAt Try.prog Try.prog.depth 141 (4 / Try.prog.cellsOf 141) 1 139 1 = true := by kernel_rfl
  go_enter Try.func107, Try.ntmps107
  go_wp2_with (first | (first | (refine BigFrame.wpList_want (by rfl) fun K hK => ws_load1 hM rfl rfl (by (repeat (first | assumption | (with_reducible exact mZ) | apply mS)); first | done | fail) (by first | rfl | assumption) (by decide +kernel) (hK _ _ ?_); clear hK K) | fail))
  rw [Lib.run_to_unsafe w ⟨b, 1, none⟩ Try.underlying137 Try.underlying184 hj (by rw [hjs]; decide) hsh (show 1 < 4 by decide)]
  simp only [Result.andThen]
  rw [Oper.upon_value]
  go_wp2
  rw [run_callFunc_extern Try.func117 (by kernel_rfl) (by kernel_rfl) (by kernel_rfl) (e := Extern.AbiNoEscape.same) (by kernel_rfl)]
  rw [Lib.run_noEscape]
  simp only [Result.andThen]
  rw [Oper.upon_value]
  go_wp2
  rw [Lib.run_from_unsafe w ⟨b, 1, none⟩ Try.underlying184 Try.underlying137 hj hsh hlies]
  simp only [Result.andThen]
  rw [Oper.upon_value]
  go_wp2_with (first | (first | (have hM0 := hM; clear hM; refine BigFrame.wpList_want (by rfl) fun K hK => ws_store1 hM0 rfl rfl (by go_simp; rfl) (by first | rfl | assumption) (by (repeat (first | (with_reducible exact Take.head) | apply Take.tail)); first | done | fail) (by simp) (by kernel_rfl) (by simp only [List.setIfInBounds_toArray, List.set_cons_zero, List.set_cons_succ]; rfl) (fun w hM => hK _ _ ?_); clear hM0 hK K) | fail))
  go_end0
  exact ⟨rfl, hM⟩
theorem ccheck_w (hq : q = none ∨ q = some ⟨b, 1, none⟩) (w : World) (hM : Star (wvE b A n c q B m d got :: F) w) :
    Calls Try.prog 107 #[.pointer (some ⟨b, 1, none⟩)] w fun r w' => r = .returned (.tuple #[]) ∧ Star (wvE b A n c (some ⟨b, 1, none⟩) B m d got :: F) w' := by
  rcases hq with rfl | rfl
  · exact ccheck_fresh_w w hM
  · exact ccheck_used_w w hM List.mem_cons_self
set_option maxRecDepth 100000 in
theorem wstr_w {l : List UInt8} (x : List UInt8) (hm : m ≤ 1000000000) (hx : x.length ≤ 1000000000) (hH : headA B) (hq : q = none ∨ q = some ⟨b, 1, none⟩) (w : World) (hM : Star (wvE b A n c q B m d got :: tailE 5 1 B m d (bvs l) :: F) w) :
    Calls Try.prog 85 #[.pointer (some ⟨b, 1, none⟩), .string ⟨x.toArray⟩] w fun r w' => ∃ v B' d', r = .returned v ∧ headA B' ∧ Star (wvE b A n c (some ⟨b, 1, none⟩) B' (m + x.length) d' got :: tailE 5 1 B' (m + x.length) d' (bvs (l ++ x)) :: F) w' := by
  go_enter Try.func85, Try.ntmps85
  go_wp2_with (first | (go_at_call 107; have hM0 := hM; clear hM; (first | (with_reducible refine (ccheck_w hq _ hM0).mono ?_) | fail); clear hM0; rintro _ w ⟨rfl, hM⟩) | (first | (refine BigFrame.wpList_want (by rfl) fun K hK => ws_load1 hM rfl rfl (by (repeat (first | assumption | (with_reducible exact mZ) | apply mS)); first | done | fail) (by first | rfl | assumption) (by decide +kernel) (hK _ _ ?_); clear hK K) | fail) | (have hM0 := hM; clear hM; refine BigFrame.wpList_want (by rfl) fun K hK => ws_app_head hM0 rfl rfl hH 5 (.int .u8 0) 1 1 Try.underlying80 (by kernel_rfl) (by rfl) (by (repeat (first | (with_reducible exact Take.head) | apply Take.tail)); first | done | fail) (src_str Try.underlying9 x) (by omega) (fun A1 c1 w hH1 hM => hK _ _ ?_); clear hM0 hK K) | (first | (have hM0 := hM; clear hM; refine BigFrame.wpList_want (by rfl) fun K hK => ws_store1 hM0 rfl rfl (by go_simp; rfl) (by first | rfl | assumption) (by (repeat (first | (with_reducible exact Take.head) | apply Take.tail)); first | done | fail) (by simp) (by kernel_rfl) (by simp only [List.setIfInBounds_toArray, List.set_cons_zero, List.set_cons_succ]; rfl) (fun w hM => hK _ _ ?_); clear hM0 hK K) | fail))
  go_ret2
  exact ⟨_, A1, c1, rfl, hH1, by rw [bvs_app]; exact hM.sel (by repeat (first | (with_reducible exact Sel.refl) | (with_reducible exact Take.head) | (with_reducible apply Take.tail) | (with_reducible apply Sel.cons) | (with_reducible apply Sel.drop)))⟩
end
theorem freeze_own (w : World) (g n : Nat) {cur : Array Value} {e : TypeId} {fr : Nat × Nat} (h : w.heap[g]? = some (.cells cur e fr)) : ∃ fr', (w.freeze ⟨g, 0, none⟩ n).heap[g]? = some (.cells cur e fr') := by
  unfold World.freeze
  split
  · exact ⟨fr, h⟩
  · simp only [Array.getElem?_modify, if_true, h, Option.map_some]
    exact ⟨_, rfl⟩
section
variable {P : Program} {w : World} {o : Oper} {a : Act} {Q : Exit → Act → World → Prop} {L R : List SProp} {K : Act → World → Prop}
/-- unsafe.String over what a builder holds. -/
theorem ws_unsafeString_held (hM : Star L w) {x y : Operand} {pt it : TypeId} (ho : o.op = .call { callee := .builtin .unsafeString, args := #[x, y], argTypes := #[pt, it] }) {A : Option Addr} {l : List UInt8} (hx : a.eval x = .pointer A) (hy : a.eval y = .int .i64 (l.length : Int))
    (hp : P.underlying pt = some (.pointer 5)) (hc1 : P.cellsOf 5 = 1) (hb : Take (heldE A l) L R)
    (h : ∀ w1, Star (heldE A l :: R) w1 → K (a.put o.dst (.string ⟨l.toArray⟩)) w1) : Oper.wp P o a w K Q := by
  have hT := hM.take hb
  rcases hT.head with ⟨rfl, rfl⟩ | ⟨g, cur, fr, rfl, hg, hle, h0, h63, hcl⟩
  · have hUS := Lib.run_unsafeString_none (P := P) (w := w) pt it o.type none
    unfold Oper.wp execOp
    simp only [ho, resolve, invoke, builtin, Sem.run_bind, Sem.run_pure, Result.andThen_ok, List.map_toArray, List.map_cons, List.map_nil, hx, hy, List.length_nil, Int.natCast_zero, hUS]
    exact h _ hT
  · have hUS : (Builtin.unsafeString_ #[pt, it] o.type #[.pointer (some ⟨g, 0, none⟩), .int .i64 l.length]).run P w = .ok (.string ⟨l.toArray⟩) (w.freeze ⟨g, 0, none⟩ l.length) := by
      refine Lib.run_unsafeString_row w pt it o.type _ hp hc1 g cur.size (by simp [World.shape?, hg]) l h0 hle h63 ?_
      intro j x hx
      rw [add_lit, Nat.zero_add]
      simp [World.cell?, hg, hcl j x hx]
    unfold Oper.wp execOp
    simp only [ho, resolve, invoke, builtin, Sem.run_bind, Sem.run_pure, Result.andThen_ok, List.map_toArray, List.map_cons, List.map_nil, hx, hy, hUS]
    obtain ⟨fr', hf⟩ := freeze_own w g l.length hg
    exact h _ (hT.put (bs := [g]) rfl (freeze_ch w g _) (fun b hb => by rcases List.mem_singleton.1 hb with rfl; exact .inl ⟨_, rfl, rfl⟩) (.inr ⟨g, cur, fr', rfl, hf, hle, h0, h63, hcl⟩) fun k hk => .inl hk)
/-- unsafe.SliceData of what a builder holds. -/
theorem ex_sliceData_held {x : Operand} {t : TypeId} (ho : o.op = .call { callee := .builtin .unsafeSliceData, args := #[x], argTypes := #[t] }) {A : Option Addr} {n c : Nat} (hx : a.eval x = .slice A n c) (hc : A = none ∨ c ≠ 0) :
    (execOp a.eval o).run P w = .ok (.value (.pointer A)) w := by
  cases A with
  | none =>
    have hr := Lib.run_unsafeSliceData_nil (P := P) (w := w) #[t] o.type n c
    unfold execOp
    simp only [ho, resolve, invoke, builtin, Sem.run_bind, Sem.run_pure, Result.andThen_ok, List.map_toArray, List.map_cons, List.map_nil, hx, hr]
  | some ad => exact ex_sliceData ho hx (hc.resolve_left (by simp))
end
section
variable {F : List SProp} {b n c m d : Nat} {A B q : Option Addr} {got : Int}
set_option maxRecDepth 100000 in
theorem bstring_w {l : List UInt8} (hd : B = none ∨ d ≠ 0) (w : World) (hM : Star (heldE B l :: F) w) (hx : wvE b A n c q B l.length d got ∈ F) :
    Calls Try.prog 108 #[.pointer (some ⟨b, 1, none⟩)] w fun r w' => r = .returned (.string ⟨l.toArray⟩) ∧ Star (heldE B l :: F) w' := by
  go_enter Try.func108, Try.ntmps108
  go_wp2_with fail
  (refine region_RS ([wvE b A n c q B l.length d got]) [] (by kernel_rfl) hM ?_; clear hM; change RS _ _ _ _ _ _ 12 (Array.replicate 12 false) _ _; refine RS_take (i := 0) rfl (by decide +kernel) (fun _ _ _ h => h) (by first | (intro x hx; (repeat (first | exact hx | apply mS)); done) | ((repeat (refine List.forall_mem_cons.2 ⟨(by (repeat (first | assumption | (with_reducible exact mZ) | apply mS)); first | done | fail), ?_⟩)); intro x hx; first | (cases hx; done) | ((repeat (first | exact hx | apply mS)); done))) (stab_pure (by rfl) (fun w => (by go_simp; try with_reducible rfl))) ?_; simp only [Act.put, List.setIfInBounds_toArray, List.set_cons_zero, List.set_cons_succ]; refine RS_take (i := 1) rfl (by decide +kernel) (fun _ _ _ h => h) (by first | (intro x hx; (repeat (first | exact hx | apply mS)); done) | ((repeat (refine List.forall_mem_cons.2 ⟨(by (repeat (first | assumption | (with_reducible exact mZ) | apply mS)); first | done | fail), ?_⟩)); intro x hx; first | (cases hx; done) | ((repeat (first | exact hx | apply mS)); done))) (stab_pure (by rfl) (fun w => (by go_simp; try with_reducible rfl))) ?_; simp only [Act.put, List.setIfInBounds_toArray, List.set_cons_zero, List.set_cons_succ]; refine RS_take (i := 2) rfl (by decide +kernel) (fun _ _ _ h => h) (by first | (intro x hx; (repeat (first | exact hx | apply mS)); done) | ((repeat (refine List.forall_mem_cons.2 ⟨(by (repeat (first | assumption | (with_reducible exact mZ) | apply mS)); first | done | fail), ?_⟩)); intro x hx; first | (cases hx; done) | ((repeat (first | exact hx | apply mS)); done))) (stab_pure (by rfl) (fun w => (by go_simp; try with_reducible rfl))) ?_; simp only [Act.put, List.setIfInBounds_toArray, List.set_cons_zero, List.set_cons_succ]; refine RS_take (i := 3) rfl (by decide +kernel) (fun _ _ _ h => h) (by first | (intro x hx; (repeat (first | exact hx | apply mS)); done) | ((repeat (refine List.forall_mem_cons.2 ⟨(by (repeat (first | assumption | (with_reducible exact mZ) | apply mS)); first | done | fail), ?_⟩)); intro x hx; first | (cases hx; done) | ((repeat (first | exact hx | apply mS)); done))) (stab_read (by rfl) (fun L w hL hM => (ex_load1 (v := .slice B l.length d) hM rfl rfl (hL _ (by (repeat (first | assumption | (with_reducible exact mZ) | apply mS)); first | done | fail)) rfl (by decide +kernel)))) ?_; simp only [Act.put, List.setIfInBounds_toArray, List.set_cons_zero, List.set_cons_succ]; refine RS_take (i := 4) rfl (by decide +kernel) (fun _ _ _ h => h) (by first | (intro x hx; (repeat (first | exact hx | apply mS)); done) | ((repeat (refine List.forall_mem_cons.2 ⟨(by (repeat (first | assumption | (with_reducible exact mZ) | apply mS)); first | done | fail), ?_⟩)); intro x hx; first | (cases hx; done) | ((repeat (first | exact hx | apply mS)); done))) (stab_read (by rfl) (fun L w hL hM => (ex_sliceData_held rfl rfl hd))) ?_; simp only [Act.put, List.setIfInBounds_toArray, List.set_cons_zero, List.set_cons_succ]; refine RS_take (i := 5) rfl (by decide +kernel) (fun _ _ _ h => h) (by first | (intro x hx; (repeat (first | exact hx | apply mS)); done) | ((repeat (refine List.forall_mem_cons.2 ⟨(by (repeat (first | assumption | (with_reducible exact mZ) | apply mS)); first | done | fail), ?_⟩)); intro x hx; first | (cases hx; done) | ((repeat (first | exact hx | apply mS)); done))) (stab_pure (by rfl) (fun w => (by go_simp; try with_reducible rfl))) ?_; simp only [Act.put, List.setIfInBounds_toArray, List.set_cons_zero, List.set_cons_succ]; refine RS_take (i := 6) rfl (by decide +kernel) (fun _ _ _ h => h) (by first | (intro x hx; (repeat (first | exact hx | apply mS)); done) | ((repeat (refine List.forall_mem_cons.2 ⟨(by (repeat (first | assumption | (with_reducible exact mZ) | apply mS)); first | done | fail), ?_⟩)); intro x hx; first | (cases hx; done) | ((repeat (first | exact hx | apply mS)); done))) (stab_pure (by rfl) (fun w => (by go_simp; try with_reducible rfl))) ?_; simp only [Act.put, List.setIfInBounds_toArray, List.set_cons_zero, List.set_cons_succ]; refine RS_take (i := 7) rfl (by decide +kernel) (fun _ _ _ h => h) (by first | (intro x hx; (repeat (first | exact hx | apply mS)); done) | ((repeat (refine List.forall_mem_cons.2 ⟨(by (repeat (first | assumption | (with_reducible exact mZ) | apply mS)); first | done | fail), ?_⟩)); intro x hx; first | (cases hx; done) | ((repeat (first | exact hx | apply mS)); done))) (stab_pure (by rfl) (fun w => (by go_simp; try with_reducible rfl))) ?_; simp only [Act.put, List.setIfInBounds_toArray, List.set_cons_zero, List.set_cons_succ]; refine RS_take (i := 8) rfl (by decide +kernel) (fun _ _ _ h => h) (by first | (intro x hx; (repeat (first | exact hx | apply mS)); done) | ((repeat (refine List.forall_mem_cons.2 ⟨(by (repeat (first | assumption | (with_reducible exact mZ) | apply mS)); first | done | fail), ?_⟩)); intro x hx; first | (cases hx; done) | ((repeat (first | exact hx | apply mS)); done))) (stab_read (by rfl) (fun L w hL hM => (ex_load1 (v := .slice B l.length d) hM rfl rfl (hL _ (by (repeat (first | assumption | (with_reducible exact mZ) | apply mS)); first | done | fail)) rfl (by decide +kernel)))) ?_; simp only [Act.put, List.setIfInBounds_toArray, List.set_cons_zero, List.set_cons_succ]; refine RS_take (i := 9) rfl (by decide +kernel) (fun _ _ _ h => h) (by first | (intro x hx; (repeat (first | exact hx | apply mS)); done) | ((repeat (refine List.forall_mem_cons.2 ⟨(by (repeat (first | assumption | (with_reducible exact mZ) | apply mS)); first | done | fail), ?_⟩)); intro x hx; first | (cases hx; done) | ((repeat (first | exact hx | apply mS)); done))) (stab_pure (by rfl) (fun w => (by go_simp; try with_reducible rfl))) ?_; simp only [Act.put, List.setIfInBounds_toArray, List.set_cons_zero, List.set_cons_succ]; refine RS_one (i := 10) (by decide +kernel) rfl (by rfl) (.inl (by first | (intro x hx; (repeat (first | exact hx | apply mS)); done) | ((repeat (refine List.forall_mem_cons.2 ⟨(by (repeat (first | assumption | (with_reducible exact mZ) | apply mS)); first | done | fail), ?_⟩)); intro x hx; first | (cases hx; done) | ((repeat (first | exact hx | apply mS)); done)))) (fun w K hM0 hK => ?_); refine ws_unsafeString_held hM0 rfl rfl rfl Try.underlying186 (by kernel_rfl) (by (repeat (first | (with_reducible exact Take.head) | apply Take.tail)); first | done | fail) (fun w hM => hK _ _ _ hM ?_); clear hM hM0 hK K; simp only [Act.put, List.setIfInBounds_toArray, List.set_cons_zero, List.set_cons_succ]; refine RS_take (i := 11) rfl (by decide +kernel) (fun _ _ _ h => h) (by first | (intro x hx; (repeat (first | exact hx | apply mS)); done) | ((repeat (refine List.forall_mem_cons.2 ⟨(by (repeat (first | assumption | (with_reducible exact mZ) | apply mS)); first | done | fail), ?_⟩)); intro x hx; first | (cases hx; done) | ((repeat (first | exact hx | apply mS)); done))) (stab_pure (by rfl) (fun w => (by go_simp; try with_reducible rfl))) ?_; simp only [Act.put, List.setIfInBounds_toArray, List.set_cons_zero, List.set_cons_succ]; refine RS_done (by decide +kernel) (.inl (by first | (intro x hx; (repeat (first | exact hx | apply mS)); done) | ((repeat (refine List.forall_mem_cons.2 ⟨(by (repeat (first | assumption | (with_reducible exact mZ) | apply mS)); first | done | fail), ?_⟩)); intro x hx; first | (cases hx; done) | ((repeat (first | exact hx | apply mS)); done)))) (fun w hM => ?_))
  go_wp2
  go_ret
  exact ⟨rfl, hM⟩
end
end Go.Proofs.Ytlhedbjjlomniaa
set_option linter.unusedSimpArgs false
set_option linter.unusedVariables false
namespace Go.Proofs.Ytlhedbjjlomniaa
open Go.RowKit
attribute [local go_sem] extract_mid extract_drop bget bsize wrap64_u8 i64_u8 u64_u8 bappend
theorem ex_sub {P : Program} {w : World} {o : Oper} {a : Act} {t ty : TypeId} {x y : Operand} (ho : o.op = .binOp .sub t x y ty) {i j s : Int} (hx : a.eval x = .int .i64 i) (hy : a.eval y = .int .i64 j) (hs : IntKind.i64.wrap (i - j) = s) : (execOp a.eval o).run P w = .ok (.value (.int .i64 s)) w := by
  subst hs
  unfold execOp
  simp only [ho, hx, hy]
  simp [go_sem]
section
variable {F : List SProp} {b n c m d : Nat} {A B q : Option Addr} {got : Int}
set_option maxRecDepth 100000 in
theorem over_w (w : World) (hM : Star F w) (hx : wvE b A n c q B m d got ∈ F) : Calls Try.prog 43 #[.pointer (some ⟨b, 0, none⟩)] w fun r w' => r = .returned (.bool (decide (n = 0))) ∧ Star F w' := by
  by_cases h : n = 0
  · subst h
    go_enter Try.func43, Try.ntmps43
    go_wp2_with (first | (first | ((with_reducible refine at_load' ?_); (refine BigFrame.wpList_want (by rfl) fun K hK => ws_load1 hM rfl rfl (by (repeat (first | assumption | (with_reducible exact mZ) | apply mS)); first | done | fail) (by first | rfl | assumption) (by decide +kernel) (hK _ _ ?_); clear hK K)) | fail))
    go_ret
    exact ⟨rfl, hM⟩
  · have h1 : ((n : Int) == 0) = false := by simp; omega
    go_enter Try.func43, Try.ntmps43
    go_wp2_with (first | (first | ((with_reducible refine at_load' ?_); (refine BigFrame.wpList_want (by rfl) fun K hK => ws_load1 hM rfl rfl (by (repeat (first | assumption | (with_reducible exact mZ) | apply mS)); first | done | fail) (by first | rfl | assumption) (by decide +kernel) (hK _ _ ?_); clear hK K)) | fail))
    go_ret
    exact ⟨by simp [h], hM⟩
set_option maxRecDepth 100000 in
theorem got_w (w : World) (hM : Star F w) (hx : wvE b A n c q B m d got ∈ F) : Calls Try.prog 42 #[.pointer (some ⟨b, 0, none⟩)] w fun r w' => r = .returned (.tuple #[.int .i64 got, .int .i64 m]) ∧ Star F w' := by
  go_enter Try.func42, Try.ntmps42
  go_wp2_with fail
  (refine region_RS ([wvE b A n c q B m d got]) [] (by kernel_rfl) hM ?_; clear hM; change RS _ _ _ _ _ _ 10 (Array.replicate 10 false) _ _; refine RS_take (i := 0) rfl (by decide +kernel) (fun _ _ _ h => h) (by first | (intro x hx; (repeat (first | exact hx | apply mS)); done) | ((repeat (refine List.forall_mem_cons.2 ⟨(by (repeat (first | assumption | (with_reducible exact mZ) | apply mS)); first | done | fail), ?_⟩)); intro x hx; first | (cases hx; done) | ((repeat (first | exact hx | apply mS)); done))) (stab_pure (by rfl) (fun w => (by go_simp; try with_reducible rfl))) ?_; simp only [Act.put, List.setIfInBounds_toArray, List.set_cons_zero, List.set_cons_succ]; refine RS_take (i := 1) rfl (by decide +kernel) (fun _ _ _ h => h) (by first | (intro x hx; (repeat (first | exact hx | apply mS)); done) | ((repeat (refine List.forall_mem_cons.2 ⟨(by (repeat (first | assumption | (with_reducible exact mZ) | apply mS)); first | done | fail), ?_⟩)); intro x hx; first | (cases hx; done) | ((repeat (first | exact hx | apply mS)); done))) (stab_pure (by rfl) (fun w => (by go_simp; try with_reducible rfl))) ?_; simp only [Act.put, List.setIfInBounds_toArray, List.set_cons_zero, List.set_cons_succ]; refine RS_take (i := 2) rfl (by decide +kernel) (fun _ _ _ h => h) (by first | (intro x hx; (repeat (first | exact hx | apply mS)); done) | ((repeat (refine List.forall_mem_cons.2 ⟨(by (repeat (first | assumption | (with_reducible exact mZ) | apply mS)); first | done | fail), ?_⟩)); intro x hx; first | (cases hx; done) | ((repeat (first | exact hx | apply mS)); done))) (stab_pure (by rfl) (fun w => (by go_simp; try with_reducible rfl))) ?_; simp only [Act.put, List.setIfInBounds_toArray, List.set_cons_zero, List.set_cons_succ]; refine RS_take (i := 3) rfl (by decide +kernel) (fun _ _ _ h => h) (by first | (intro x hx; (repeat (first | exact hx | apply mS)); done) | ((repeat (refine List.forall_mem_cons.2 ⟨(by (repeat (first | assumption | (with_reducible exact mZ) | apply mS)); first | done | fail), ?_⟩)); intro x hx; first | (cases hx; done) | ((repeat (first | exact hx | apply mS)); done))) (stab_read (by rfl) (fun L w hL hM => (ex_load1 (v := .int .i64 got) hM rfl rfl (hL _ (by (repeat (first | assumption | (with_reducible exact mZ) | apply mS)); first | done | fail)) rfl (by decide +kernel)))) ?_; simp only [Act.put, List.setIfInBounds_toArray, List.set_cons_zero, List.set_cons_succ]; refine RS_take (i := 4) rfl (by decide +kernel) (fun _ _ _ h => h) (by first | (intro x hx; (repeat (first | exact hx | apply mS)); done) | ((repeat (refine List.forall_mem_cons.2 ⟨(by (repeat (first | assumption | (with_reducible exact mZ) | apply mS)); first | done | fail), ?_⟩)); intro x hx; first | (cases hx; done) | ((repeat (first | exact hx | apply mS)); done))) (stab_pure (by rfl) (fun w => (by go_simp; try with_reducible rfl))) ?_; simp only [Act.put, List.setIfInBounds_toArray, List.set_cons_zero, List.set_cons_succ]; refine RS_take (i := 5) rfl (by decide +kernel) (fun _ _ _ h => h) (by first | (intro x hx; (repeat (first | exact hx | apply mS)); done) | ((repeat (refine List.forall_mem_cons.2 ⟨(by (repeat (first | assumption | (with_reducible exact mZ) | apply mS)); first | done | fail), ?_⟩)); intro x hx; first | (cases hx; done) | ((repeat (first | exact hx | apply mS)); done))) (stab_pure (by rfl) (fun w => (by go_simp; try with_reducible rfl))) ?_; simp only [Act.put, List.setIfInBounds_toArray, List.set_cons_zero, List.set_cons_succ]; refine RS_take (i := 6) rfl (by decide +kernel) (fun _ _ _ h => h) (by first | (intro x hx; (repeat (first | exact hx | apply mS)); done) | ((repeat (refine List.forall_mem_cons.2 ⟨(by (repeat (first | assumption | (with_reducible exact mZ) | apply mS)); first | done | fail), ?_⟩)); intro x hx; first | (cases hx; done) | ((repeat (first | exact hx | apply mS)); done))) (stab_pure (by rfl) (fun w => (by go_simp; try with_reducible rfl))) ?_; simp only [Act.put, List.setIfInBounds_toArray, List.set_cons_zero, List.set_cons_succ]; refine RS_take (i := 7) rfl (by decide +kernel) (fun _ _ _ h => h) (by first | (intro x hx; (repeat (first | exact hx | apply mS)); done) | ((repeat (refine List.forall_mem_cons.2 ⟨(by (repeat (first | assumption | (with_reducible exact mZ) | apply mS)); first | done | fail), ?_⟩)); intro x hx; first | (cases hx; done) | ((repeat (first | exact hx | apply mS)); done))) (stab_call (by rfl) (fun w => (by go_simp; try with_reducible rfl)) (fun L w hL hM => (blen_w w hM (hL _ (by (repeat (first | assumption | (with_reducible exact mZ) | apply mS)); first | done | fail))))) ?_; simp only [Act.put, List.setIfInBounds_toArray, List.set_cons_zero, List.set_cons_succ]; refine RS_take (i := 8) rfl (by decide +kernel) (fun _ _ _ h => h) (by first | (intro x hx; (repeat (first | exact hx | apply mS)); done) | ((repeat (refine List.forall_mem_cons.2 ⟨(by (repeat (first | assumption | (with_reducible exact mZ) | apply mS)); first | done | fail), ?_⟩)); intro x hx; first | (cases hx; done) | ((repeat (first | exact hx | apply mS)); done))) (stab_pure (by rfl) (fun w => (by go_simp; try with_reducible rfl))) ?_; simp only [Act.put, List.setIfInBounds_toArray, List.set_cons_zero, List.set_cons_succ]; refine RS_take (i := 9) rfl (by decide +kernel) (fun _ _ _ h => h) (by first | (intro x hx; (repeat (first | exact hx | apply mS)); done) | ((repeat (refine List.forall_mem_cons.2 ⟨(by (repeat (first | assumption | (with_reducible exact mZ) | apply mS)); first | done | fail), ?_⟩)); intro x hx; first | (cases hx; done) | ((repeat (first | exact hx | apply mS)); done))) (stab_pure (by rfl) (fun w => (by go_simp; try with_reducible rfl))) ?_; simp only [Act.put, List.setIfInBounds_toArray, List.set_cons_zero, List.set_cons_succ]; refine RS_done (by decide +kernel) (.inl (by first | (intro x hx; (repeat (first | exact hx | apply mS)); done) | ((repeat (refine List.forall_mem_cons.2 ⟨(by (repeat (first | assumption | (with_reducible exact mZ) | apply mS)); first | done | fail), ?_⟩)); intro x hx; first | (cases hx; done) | ((repeat (first | exact hx | apply mS)); done)))) (fun w hM => ?_))
  go_wp2
  go_ret2
  exact ⟨rfl, hM⟩
end
/-- The program's slice of what is to come holds it turned. -/
theorem last_at {l rest : List Stp} {s : Stp} (h : l = s :: rest) {n : Nat} (hn : l.length = n + 1) : l.reverse[n]? = some s := by
  subst h
  simp only [List.length_cons] at hn
  obtain rfl : n = rest.length := by omega
  rw [List.reverse_cons, List.getElem?_append_right (by simp)]
  simp
theorem okS_rev {l : List Stp} (h : okS l) : okS l.reverse := fun s hs => h s (by simpa using hs)
set_option maxRecDepth 100000 in
set_option maxHeartbeats 4000000 in
theorem next_w {F : List SProp} {b n c m d : Nat} {A B q : Option Addr} {got : Int} {l : List Stp} {s : Stp} {rest : List Stp} (hl : l = s :: rest) (hn : l.length = n) (h32 : okS l) (hb : n ≤ 1000000) (w : World) (hM : Star F w) (hx : wvE b A n c q B m d got ∈ F) (hT : tailE 135 34 A n c (tvs l.reverse) ∈ F) :
    Calls Try.prog 83 #[.pointer (some ⟨b, 0, none⟩)] w fun r w' => r = .returned (.tuple #[.agg (wcs (kindB s).toNat s.1).toArray, .bool true]) ∧ Star F w' := by
  obtain ⟨k, rfl⟩ : ∃ k, n = k + 1 := ⟨n - 1, by rw [← hn, hl]; simp⟩
  obtain ⟨ad, rfl, _, _⟩ := (hM.tail_row hT).2 (by omega)
  have hs32 := h32 s (by rw [hl]; exact List.mem_cons_self)
  have HG : Hid (∀ j v, (tcs s)[j]? = some v → (tvs l.reverse)[k * 34 + j]? = some v) := tvs_get (okS_rev h32) (last_at hl hn)
  have HTS : Hid ((tcs s).toArray.size = 34) := tcs_sz hs32
  have HTL : Hid ((tcs s).length = 34) := tcs_len hs32
  have HTS0 : Hid ((tcs ((z32, 0), 0)).toArray.size = 34) := tcs_sz (s := ((z32, 0), 0)) z32_len
  have HW0 : Hid ((wcs 0 (z32, 0)).toArray.size = 34) := wcs_sz (p := (z32, 0)) z32_len
  have HLV : Hid ((tcs s).toArray[33]? = some (.int .i64 s.2)) := tcs_33 hs32
  have HPT : Hid (∀ j v, (pcs s.1)[j]? = some v → (tcs s).toArray[0 + j]? = some v) := tcs_pt s
  have HPL : Hid ((pcs s.1).length = 33) := pcs_len hs32
  have hk2 : (k : Int) < (k : Int) + 1 := by omega
  obtain ⟨⟨id, sz⟩, lv⟩ := s
  simp only at hs32
  have HB1 := Lib.hid (fun w => build_wnt 1 id hs32 sz w)
  have HB2 := Lib.hid (fun w => build_wnt 2 id hs32 sz w)
  have HW1 : Hid ((wcs 1 (id, sz)).toArray.size = 34) := wcs_sz hs32
  have HW2 : Hid ((wcs 2 (id, sz)).toArray.size = 34) := wcs_sz hs32
  have HOV : Hid (∀ (L : List SProp) (w : World), Star L w → wvE b (some ad) (k + 1) c q B m d got ∈ L → Calls Try.prog 43 #[.pointer (some ⟨b, 0, none⟩)] w fun r w' => r = .returned (.bool false) ∧ Star L w') := fun L w hM hx => by
    have := over_w w hM hx
    rwa [decide_eq_false (by omega)] at this
  clear hs32 h32 hl hn
  by_cases h0 : lv = 0
  · subst h0
    go_enter Try.func83, Try.ntmps83
    go_wp2_with (first | (first | ((with_reducible refine at_alloc' ?_); (have hM0 := hM; clear hM; refine BigFrame.wpList_want (by rfl) fun K hK => ws_alloc hM0 (t := 131) rfl (wcs 0 (z32, 0)).toArray info_wnt (fun g2 w hM => hK _ _ ?_); clear hM0 hK K)) | fail) | (go_at_call 43; have hM0 := hM; clear hM; (first | (with_reducible refine (HOV.out _ _ hM0 (by (repeat (first | assumption | (with_reducible exact mZ) | apply mS)); first | done | fail)).mono ?_) | fail); clear hM0; rintro _ w ⟨rfl, hM⟩))
    (refine region_RS ([wvE b (some ad) (k + 1) c q B m d got, tailE 135 34 (some ad) (k + 1) c (tvs l.reverse)]) [13] (by kernel_rfl) hM ?_; clear hM; change RS _ _ _ _ _ _ 14 (Array.replicate 14 false) _ _; refine RS_take (i := 0) rfl (by decide +kernel) (fun _ _ _ h => h) (by first | (intro x hx; (repeat (first | exact hx | apply mS)); done) | ((repeat (refine List.forall_mem_cons.2 ⟨(by (repeat (first | assumption | (with_reducible exact mZ) | apply mS)); first | done | fail), ?_⟩)); intro x hx; first | (cases hx; done) | ((repeat (first | exact hx | apply mS)); done))) (stab_pure (by rfl) (fun w => (by go_simp; try with_reducible rfl))) ?_; simp only [Act.put, List.setIfInBounds_toArray, List.set_cons_zero, List.set_cons_succ]; refine RS_take (i := 1) rfl (by decide +kernel) (fun _ _ _ h => h) (by first | (intro x hx; (repeat (first | exact hx | apply mS)); done) | ((repeat (refine List.forall_mem_cons.2 ⟨(by (repeat (first | assumption | (with_reducible exact mZ) | apply mS)); first | done | fail), ?_⟩)); intro x hx; first | (cases hx; done) | ((repeat (first | exact hx | apply mS)); done))) (stab_pure (by rfl) (fun w => (by go_simp; try with_reducible rfl))) ?_; simp only [Act.put, List.setIfInBounds_toArray, List.set_cons_zero, List.set_cons_succ]; refine RS_take (i := 2) rfl (by decide +kernel) (fun _ _ _ h => h) (by first | (intro x hx; (repeat (first | exact hx | apply mS)); done) | ((repeat (refine List.forall_mem_cons.2 ⟨(by (repeat (first | assumption | (with_reducible exact mZ) | apply mS)); first | done | fail), ?_⟩)); intro x hx; first | (cases hx; done) | ((repeat (first | exact hx | apply mS)); done))) (stab_pure (by rfl) (fun w => (by go_simp; try with_reducible rfl))) ?_; simp only [Act.put, List.setIfInBounds_toArray, List.set_cons_zero, List.set_cons_succ]; refine RS_take (i := 3) rfl (by decide +kernel) (fun _ _ _ h => h) (by first | (intro x hx; (repeat (first | exact hx | apply mS)); done) | ((repeat (refine List.forall_mem_cons.2 ⟨(by (repeat (first | assumption | (with_reducible exact mZ) | apply mS)); first | done | fail), ?_⟩)); intro x hx; first | (cases hx; done) | ((repeat (first | exact hx | apply mS)); done))) (stab_read (by rfl) (fun L w hL hM => (ex_load1 (v := .slice (some ad) (k + 1) c) hM rfl rfl (hL _ (by (repeat (first | assumption | (with_reducible exact mZ) | apply mS)); first | done | fail)) rfl (by decide +kernel)))) ?_; simp only [Act.put, List.setIfInBounds_toArray, List.set_cons_zero, List.set_cons_succ]; refine RS_take (i := 4) rfl (by decide +kernel) (fun _ _ _ h => h) (by first | (intro x hx; (repeat (first | exact hx | apply mS)); done) | ((repeat (refine List.forall_mem_cons.2 ⟨(by (repeat (first | assumption | (with_reducible exact mZ) | apply mS)); first | done | fail), ?_⟩)); intro x hx; first | (cases hx; done) | ((repeat (first | exact hx | apply mS)); done))) (stab_pure (by rfl) (fun w => (by go_simp; try with_reducible rfl))) ?_; simp only [Act.put, List.setIfInBounds_toArray, List.set_cons_zero, List.set_cons_succ]; refine RS_take (i := 5) rfl (by decide +kernel) (fun _ _ _ h => h) (by first | (intro x hx; (repeat (first | exact hx | apply mS)); done) | ((repeat (refine List.forall_mem_cons.2 ⟨(by (repeat (first | assumption | (with_reducible exact mZ) | apply mS)); first | done | fail), ?_⟩)); intro x hx; first | (cases hx; done) | ((repeat (first | exact hx | apply mS)); done))) (stab_pure (by rfl) (fun w => (by go_simp; try with_reducible rfl))) ?_; simp only [Act.put, List.setIfInBounds_toArray, List.set_cons_zero, List.set_cons_succ]; refine RS_take (i := 6) rfl (by decide +kernel) (fun _ _ _ h => h) (by first | (intro x hx; (repeat (first | exact hx | apply mS)); done) | ((repeat (refine List.forall_mem_cons.2 ⟨(by (repeat (first | assumption | (with_reducible exact mZ) | apply mS)); first | done | fail), ?_⟩)); intro x hx; first | (cases hx; done) | ((repeat (first | exact hx | apply mS)); done))) (stab_pure (by rfl) (fun w => (by go_simp; try with_reducible rfl))) ?_; simp only [Act.put, List.setIfInBounds_toArray, List.set_cons_zero, List.set_cons_succ]; refine RS_take (i := 7) rfl (by decide +kernel) (fun _ _ _ h => h) (by first | (intro x hx; (repeat (first | exact hx | apply mS)); done) | ((repeat (refine List.forall_mem_cons.2 ⟨(by (repeat (first | assumption | (with_reducible exact mZ) | apply mS)); first | done | fail), ?_⟩)); intro x hx; first | (cases hx; done) | ((repeat (first | exact hx | apply mS)); done))) (stab_read (by rfl) (fun L w hL hM => (ex_load1 (v := .slice (some ad) (k + 1) c) hM rfl rfl (hL _ (by (repeat (first | assumption | (with_reducible exact mZ) | apply mS)); first | done | fail)) rfl (by decide +kernel)))) ?_; simp only [Act.put, List.setIfInBounds_toArray, List.set_cons_zero, List.set_cons_succ]; refine RS_take (i := 8) rfl (by decide +kernel) (fun _ _ _ h => h) (by first | (intro x hx; (repeat (first | exact hx | apply mS)); done) | ((repeat (refine List.forall_mem_cons.2 ⟨(by (repeat (first | assumption | (with_reducible exact mZ) | apply mS)); first | done | fail), ?_⟩)); intro x hx; first | (cases hx; done) | ((repeat (first | exact hx | apply mS)); done))) (stab_pure (by rfl) (fun w => (by go_simp; try with_reducible rfl))) ?_; simp only [Act.put, List.setIfInBounds_toArray, List.set_cons_zero, List.set_cons_succ]; refine RS_take (i := 9) rfl (by decide +kernel) (fun _ _ _ h => h) (by first | (intro x hx; (repeat (first | exact hx | apply mS)); done) | ((repeat (refine List.forall_mem_cons.2 ⟨(by (repeat (first | assumption | (with_reducible exact mZ) | apply mS)); first | done | fail), ?_⟩)); intro x hx; first | (cases hx; done) | ((repeat (first | exact hx | apply mS)); done))) (stab_read (by rfl) (fun L w hL hM => (ex_sub rfl rfl rfl (s := (k : Int)) (by rw [IntWalk.i64_in _ (by omega)]; omega)))) ?_; simp only [Act.put, List.setIfInBounds_toArray, List.set_cons_zero, List.set_cons_succ]; refine RS_take (i := 10) rfl (by decide +kernel) (fun _ _ _ h => h) (by first | (intro x hx; (repeat (first | exact hx | apply mS)); done) | ((repeat (refine List.forall_mem_cons.2 ⟨(by (repeat (first | assumption | (with_reducible exact mZ) | apply mS)); first | done | fail), ?_⟩)); intro x hx; first | (cases hx; done) | ((repeat (first | exact hx | apply mS)); done))) (stab_pure (by rfl) (fun w => (by go_simp; try with_reducible rfl))) ?_; simp only [Act.put, List.setIfInBounds_toArray, List.set_cons_zero, List.set_cons_succ]; refine RS_take (i := 11) rfl (by decide +kernel) (fun _ _ _ h => h) (by first | (intro x hx; (repeat (first | exact hx | apply mS)); done) | ((repeat (refine List.forall_mem_cons.2 ⟨(by (repeat (first | assumption | (with_reducible exact mZ) | apply mS)); first | done | fail), ?_⟩)); intro x hx; first | (cases hx; done) | ((repeat (first | exact hx | apply mS)); done))) (stab_read (by rfl) (fun L w hL hM => (ex_load_at rfl rfl (tcs ((id, sz), 0)) ((hM.tail_row (hL _ (by (repeat (first | assumption | (with_reducible exact mZ) | apply mS)); first | done | fail))).part (o := k * 34) (by omega) HG.out) (n := 34) HTL.out (by decide +kernel)))) ?_; simp only [Act.put, List.setIfInBounds_toArray, List.set_cons_zero, List.set_cons_succ]; refine RS_one (i := 12) (by decide +kernel) rfl (by rfl) (.inl (by first | (intro x hx; (repeat (first | exact hx | apply mS)); done) | ((repeat (refine List.forall_mem_cons.2 ⟨(by (repeat (first | assumption | (with_reducible exact mZ) | apply mS)); first | done | fail), ?_⟩)); intro x hx; first | (cases hx; done) | ((repeat (first | exact hx | apply mS)); done)))) (fun w K hM0 hK => ?_); refine ws_alloc hM0 (t := 135) rfl (tcs ((z32, 0), 0)).toArray info_stp (fun g4 w hM => hK _ _ _ hM ?_); clear hM hM0 hK K; simp only [Act.put, List.setIfInBounds_toArray, List.set_cons_zero, List.set_cons_succ]; refine RS_one (i := 13) (by decide +kernel) rfl (by rfl) (.inl (by first | (intro x hx; (repeat (first | exact hx | apply mS)); done) | ((repeat (refine List.forall_mem_cons.2 ⟨(by (repeat (first | assumption | (with_reducible exact mZ) | apply mS)); first | done | fail), ?_⟩)); intro x hx; first | (cases hx; done) | ((repeat (first | exact hx | apply mS)); done)))) (fun w K hM0 hK => ?_); refine ws_store hM0 rfl rfl rfl (by (repeat (first | (with_reducible exact Take.head) | apply Take.tail)); first | done | fail) (n := 34) (by exact HTS.out) (by exact HTS0.out) (by kernel_rfl) (by exact tcs_oneA _) (fun w hM => hK _ _ _ hM ?_); clear hM hM0 hK K; simp only [Act.put, List.setIfInBounds_toArray, List.set_cons_zero, List.set_cons_succ]; refine RS_done (by decide +kernel) (.inr (by decide +kernel)) (fun w hM => ?_))
    go_wp2_with (first | (first | ((with_reducible refine at_load' ?_); (refine BigFrame.wpList_want (by rfl) fun K hK => ws_load1 hM rfl rfl (by (repeat (first | assumption | (with_reducible exact mZ) | apply mS)); first | done | fail) (by exact HLV.out) (by decide +kernel) (hK _ _ ?_); clear hK K)) | fail) | ((with_reducible refine at_load' ?_); refine BigFrame.wpList_want (by rfl) fun K hK => ws_load_mid hM rfl rfl (by (repeat (first | assumption | (with_reducible exact mZ) | apply mS)); first | done | fail) (pcs (id, sz)) HPT.out (n := 33) HPL.out (by decide +kernel) (hK _ _ ?_); clear hK K) | (refine BigFrame.wpList_want (by rfl) fun K hK => ws_build rfl (.agg (wcs 1 (id, sz)).toArray) (by simp only [List.map_toArray, List.map_cons, List.map_nil]; exact HB1.out _) (hK _ _ ?_); clear hK K) | (first | ((with_reducible refine at_store' ?_); (have hM0 := hM; clear hM; refine BigFrame.wpList_want (by rfl) fun K hK => ws_store hM0 rfl rfl rfl (by (repeat (first | (with_reducible exact Take.head) | apply Take.tail)); first | done | fail) (n := 34) (by exact HW1.out) (by exact HW0.out) (by kernel_rfl) (by exact wcs_oneA _ _) (fun w hM => hK _ _ ?_); clear hM0 hK K)) | fail))
    refine bodyPost_ret (results_row_tmp (P := Try.prog) (ty := 131) rfl _ _ g2 131 _ 34 _ rfl rfl (hM.blk (by (repeat (first | assumption | (with_reducible exact mZ) | apply mS)); first | done | fail)) HW1.out (by decide +kernel)) rfl ?_
    exact ⟨rfl, hM.sel (by repeat (first | (with_reducible exact Sel.refl) | (with_reducible exact Take.head) | (with_reducible apply Take.tail) | (with_reducible apply Sel.cons) | (with_reducible apply Sel.drop)))⟩
  · have h1 : (lv == 0) = false := by simpa using h0
    have hk : (kindB ((id, sz), lv)).toNat = 2 := by unfold kindB; rw [if_neg h0]; rfl
    rw [hk]
    clear hk
    go_enter Try.func83, Try.ntmps83
    go_wp2_with (first | (first | ((with_reducible refine at_alloc' ?_); (have hM0 := hM; clear hM; refine BigFrame.wpList_want (by rfl) fun K hK => ws_alloc hM0 (t := 131) rfl (wcs 0 (z32, 0)).toArray info_wnt (fun g2 w hM => hK _ _ ?_); clear hM0 hK K)) | fail) | (go_at_call 43; have hM0 := hM; clear hM; (first | (with_reducible refine (HOV.out _ _ hM0 (by (repeat (first | assumption | (with_reducible exact mZ) | apply mS)); first | done | fail)).mono ?_) | fail); clear hM0; rintro _ w ⟨rfl, hM⟩))
    (refine region_RS ([wvE b (some ad) (k + 1) c q B m d got, tailE 135 34 (some ad) (k + 1) c (tvs l.reverse)]) [13] (by kernel_rfl) hM ?_; clear hM; change RS _ _ _ _ _ _ 14 (Array.replicate 14 false) _ _; refine RS_take (i := 0) rfl (by decide +kernel) (fun _ _ _ h => h) (by first | (intro x hx; (repeat (first | exact hx | apply mS)); done) | ((repeat (refine List.forall_mem_cons.2 ⟨(by (repeat (first | assumption | (with_reducible exact mZ) | apply mS)); first | done | fail), ?_⟩)); intro x hx; first | (cases hx; done) | ((repeat (first | exact hx | apply mS)); done))) (stab_pure (by rfl) (fun w => (by go_simp; try with_reducible rfl))) ?_; simp only [Act.put, List.setIfInBounds_toArray, List.set_cons_zero, List.set_cons_succ]; refine RS_take (i := 1) rfl (by decide +kernel) (fun _ _ _ h => h) (by first | (intro x hx; (repeat (first | exact hx | apply mS)); done) | ((repeat (refine List.forall_mem_cons.2 ⟨(by (repeat (first | assumption | (with_reducible exact mZ) | apply mS)); first | done | fail), ?_⟩)); intro x hx; first | (cases hx; done) | ((repeat (first | exact hx | apply mS)); done))) (stab_pure (by rfl) (fun w => (by go_simp; try with_reducible rfl))) ?_; simp only [Act.put, List.setIfInBounds_toArray, List.set_cons_zero, List.set_cons_succ]; refine RS_take (i := 2) rfl (by decide +kernel) (fun _ _ _ h => h) (by first | (intro x hx; (repeat (first | exact hx | apply mS)); done) | ((repeat (refine List.forall_mem_cons.2 ⟨(by (repeat (first | assumption | (with_reducible exact mZ) | apply mS)); first | done | fail), ?_⟩)); intro x hx; first | (cases hx; done) | ((repeat (first | exact hx | apply mS)); done))) (stab_pure (by rfl) (fun w => (by go_simp; try with_reducible rfl))) ?_; simp only [Act.put, List.setIfInBounds_toArray, List.set_cons_zero, List.set_cons_succ]; refine RS_take (i := 3) rfl (by decide +kernel) (fun _ _ _ h => h) (by first | (intro x hx; (repeat (first | exact hx | apply mS)); done) | ((repeat (refine List.forall_mem_cons.2 ⟨(by (repeat (first | assumption | (with_reducible exact mZ) | apply mS)); first | done | fail), ?_⟩)); intro x hx; first | (cases hx; done) | ((repeat (first | exact hx | apply mS)); done))) (stab_read (by rfl) (fun L w hL hM => (ex_load1 (v := .slice (some ad) (k + 1) c) hM rfl rfl (hL _ (by (repeat (first | assumption | (with_reducible exact mZ) | apply mS)); first | done | fail)) rfl (by decide +kernel)))) ?_; simp only [Act.put, List.setIfInBounds_toArray, List.set_cons_zero, List.set_cons_succ]; refine RS_take (i := 4) rfl (by decide +kernel) (fun _ _ _ h => h) (by first | (intro x hx; (repeat (first | exact hx | apply mS)); done) | ((repeat (refine List.forall_mem_cons.2 ⟨(by (repeat (first | assumption | (with_reducible exact mZ) | apply mS)); first | done | fail), ?_⟩)); intro x hx; first | (cases hx; done) | ((repeat (first | exact hx | apply mS)); done))) (stab_pure (by rfl) (fun w => (by go_simp; try with_reducible rfl))) ?_; simp only [Act.put, List.setIfInBounds_toArray, List.set_cons_zero, List.set_cons_succ]; refine RS_take (i := 5) rfl (by decide +kernel) (fun _ _ _ h => h) (by first | (intro x hx; (repeat (first | exact hx | apply mS)); done) | ((repeat (refine List.forall_mem_cons.2 ⟨(by (repeat (first | assumption | (with_reducible exact mZ) | apply mS)); first | done | fail), ?_⟩)); intro x hx; first | (cases hx; done) | ((repeat (first | exact hx | apply mS)); done))) (stab_pure (by rfl) (fun w => (by go_simp; try with_reducible rfl))) ?_; simp only [Act.put, List.setIfInBounds_toArray, List.set_cons_zero, List.set_cons_succ]; refine RS_take (i := 6) rfl (by decide +kernel) (fun _ _ _ h => h) (by first | (intro x hx; (repeat (first | exact hx | apply mS)); done) | ((repeat (refine List.forall_mem_cons.2 ⟨(by (repeat (first | assumption | (with_reducible exact mZ) | apply mS)); first | done | fail), ?_⟩)); intro x hx; first | (cases hx; done) | ((repeat (first | exact hx | apply mS)); done))) (stab_pure (by rfl) (fun w => (by go_simp; try with_reducible rfl))) ?_; simp only [Act.put, List.setIfInBounds_toArray, List.set_cons_zero, List.set_cons_succ]; refine RS_take (i := 7) rfl (by decide +kernel) (fun _ _ _ h => h) (by first | (intro x hx; (repeat (first | exact hx | apply mS)); done) | ((repeat (refine List.forall_mem_cons.2 ⟨(by (repeat (first | assumption | (with_reducible exact mZ) | apply mS)); first | done | fail), ?_⟩)); intro x hx; first | (cases hx; done) | ((repeat (first | exact hx | apply mS)); done))) (stab_read (by rfl) (fun L w hL hM => (ex_load1 (v := .slice (some ad) (k + 1) c) hM rfl rfl (hL _ (by (repeat (first | assumption | (with_reducible exact mZ) | apply mS)); first | done | fail)) rfl (by decide +kernel)))) ?_; simp only [Act.put, List.setIfInBounds_toArray, List.set_cons_zero, List.set_cons_succ]; refine RS_take (i := 8) rfl (by decide +kernel) (fun _ _ _ h => h) (by first | (intro x hx; (repeat (first | exact hx | apply mS)); done) | ((repeat (refine List.forall_mem_cons.2 ⟨(by (repeat (first | assumption | (with_reducible exact mZ) | apply mS)); first | done | fail), ?_⟩)); intro x hx; first | (cases hx; done) | ((repeat (first | exact hx | apply mS)); done))) (stab_pure (by rfl) (fun w => (by go_simp; try with_reducible rfl))) ?_; simp only [Act.put, List.setIfInBounds_toArray, List.set_cons_zero, List.set_cons_succ]; refine RS_take (i := 9) rfl (by decide +kernel) (fun _ _ _ h => h) (by first | (intro x hx; (repeat (first | exact hx | apply mS)); done) | ((repeat (refine List.forall_mem_cons.2 ⟨(by (repeat (first | assumption | (with_reducible exact mZ) | apply mS)); first | done | fail), ?_⟩)); intro x hx; first | (cases hx; done) | ((repeat (first | exact hx | apply mS)); done))) (stab_read (by rfl) (fun L w hL hM => (ex_sub rfl rfl rfl (s := (k : Int)) (by rw [IntWalk.i64_in _ (by omega)]; omega)))) ?_; simp only [Act.put, List.setIfInBounds_toArray, List.set_cons_zero, List.set_cons_succ]; refine RS_take (i := 10) rfl (by decide +kernel) (fun _ _ _ h => h) (by first | (intro x hx; (repeat (first | exact hx | apply mS)); done) | ((repeat (refine List.forall_mem_cons.2 ⟨(by (repeat (first | assumption | (with_reducible exact mZ) | apply mS)); first | done | fail), ?_⟩)); intro x hx; first | (cases hx; done) | ((repeat (first | exact hx | apply mS)); done))) (stab_pure (by rfl) (fun w => (by go_simp; try with_reducible rfl))) ?_; simp only [Act.put, List.setIfInBounds_toArray, List.set_cons_zero, List.set_cons_succ]; refine RS_take (i := 11) rfl (by decide +kernel) (fun _ _ _ h => h) (by first | (intro x hx; (repeat (first | exact hx | apply mS)); done) | ((repeat (refine List.forall_mem_cons.2 ⟨(by (repeat (first | assumption | (with_reducible exact mZ) | apply mS)); first | done | fail), ?_⟩)); intro x hx; first | (cases hx; done) | ((repeat (first | exact hx | apply mS)); done))) (stab_read (by rfl) (fun L w hL hM => (ex_load_at rfl rfl (tcs ((id, sz), lv)) ((hM.tail_row (hL _ (by (repeat (first | assumption | (with_reducible exact mZ) | apply mS)); first | done | fail))).part (o := k * 34) (by omega) HG.out) (n := 34) HTL.out (by decide +kernel)))) ?_; simp only [Act.put, List.setIfInBounds_toArray, List.set_cons_zero, List.set_cons_succ]; refine RS_one (i := 12) (by decide +kernel) rfl (by rfl) (.inl (by first | (intro x hx; (repeat (first | exact hx | apply mS)); done) | ((repeat (refine List.forall_mem_cons.2 ⟨(by (repeat (first | assumption | (with_reducible exact mZ) | apply mS)); first | done | fail), ?_⟩)); intro x hx; first | (cases hx; done) | ((repeat (first | exact hx | apply mS)); done)))) (fun w K hM0 hK => ?_); refine ws_alloc hM0 (t := 135) rfl (tcs ((z32, 0), 0)).toArray info_stp (fun g4 w hM => hK _ _ _ hM ?_); clear hM hM0 hK K; simp only [Act.put, List.setIfInBounds_toArray, List.set_cons_zero, List.set_cons_succ]; refine RS_one (i := 13) (by decide +kernel) rfl (by rfl) (.inl (by first | (intro x hx; (repeat (first | exact hx | apply mS)); done) | ((repeat (refine List.forall_mem_cons.2 ⟨(by (repeat (first | assumption | (with_reducible exact mZ) | apply mS)); first | done | fail), ?_⟩)); intro x hx; first | (cases hx; done) | ((repeat (first | exact hx | apply mS)); done)))) (fun w K hM0 hK => ?_); refine ws_store hM0 rfl rfl rfl (by (repeat (first | (with_reducible exact Take.head) | apply Take.tail)); first | done | fail) (n := 34) (by exact HTS.out) (by exact HTS0.out) (by kernel_rfl) (by exact tcs_oneA _) (fun w hM => hK _ _ _ hM ?_); clear hM hM0 hK K; simp only [Act.put, List.setIfInBounds_toArray, List.set_cons_zero, List.set_cons_succ]; refine RS_done (by decide +kernel) (.inr (by decide +kernel)) (fun w hM => ?_))
    go_wp2_with (first | (first | ((with_reducible refine at_load' ?_); (refine BigFrame.wpList_want (by rfl) fun K hK => ws_load1 hM rfl rfl (by (repeat (first | assumption | (with_reducible exact mZ) | apply mS)); first | done | fail) (by exact HLV.out) (by decide +kernel) (hK _ _ ?_); clear hK K)) | fail) | ((with_reducible refine at_load' ?_); refine BigFrame.wpList_want (by rfl) fun K hK => ws_load_mid hM rfl rfl (by (repeat (first | assumption | (with_reducible exact mZ) | apply mS)); first | done | fail) (pcs (id, sz)) HPT.out (n := 33) HPL.out (by decide +kernel) (hK _ _ ?_); clear hK K) | (refine BigFrame.wpList_want (by rfl) fun K hK => ws_build rfl (.agg (wcs 2 (id, sz)).toArray) (by simp only [List.map_toArray, List.map_cons, List.map_nil]; exact HB2.out _) (hK _ _ ?_); clear hK K) | (first | ((with_reducible refine at_store' ?_); (have hM0 := hM; clear hM; refine BigFrame.wpList_want (by rfl) fun K hK => ws_store hM0 rfl rfl rfl (by (repeat (first | (with_reducible exact Take.head) | apply Take.tail)); first | done | fail) (n := 34) (by exact HW2.out) (by exact HW0.out) (by kernel_rfl) (by exact wcs_oneA _ _) (fun w hM => hK _ _ ?_); clear hM0 hK K)) | fail))
    refine bodyPost_ret (results_row_tmp (P := Try.prog) (ty := 131) rfl _ _ g2 131 _ 34 _ rfl rfl (hM.blk (by (repeat (first | assumption | (with_reducible exact mZ) | apply mS)); first | done | fail)) HW2.out (by decide +kernel)) rfl ?_
    exact ⟨rfl, hM.sel (by repeat (first | (with_reducible exact Sel.refl) | (with_reducible exact Take.head) | (with_reducible apply Take.tail) | (with_reducible apply Sel.cons) | (with_reducible apply Sel.drop)))⟩
set_option maxRecDepth 100000 in
set_option maxHeartbeats 4000000 in
theorem next_over_w {F : List SProp} {b c m d : Nat} {A B q : Option Addr} {got : Int} (w : World) (hM : Star F w) (hx : wvE b A 0 c q B m d got ∈ F) :
    Calls Try.prog 83 #[.pointer (some ⟨b, 0, none⟩)] w fun r w' => r = .returned (.tuple #[.agg (wcs 0 (z32, 0)).toArray, .bool false]) ∧ Star F w' := by
  have HW0 : Hid ((wcs 0 (z32, 0)).toArray.size = 34) := wcs_sz (p := (z32, 0)) z32_len
  have HB0 := Lib.hid build_wnt0
  go_enter Try.func83, Try.ntmps83
  go_wp2_with (first | (first | ((with_reducible refine at_alloc' ?_); (have hM0 := hM; clear hM; refine BigFrame.wpList_want (by rfl) fun K hK => ws_alloc hM0 (t := 131) rfl (wcs 0 (z32, 0)).toArray info_wnt (fun g2 w hM => hK _ _ ?_); clear hM0 hK K)) | fail) | (go_at_call 43; have hM0 := hM; clear hM; (first | (with_reducible refine (over_w _ hM0 (by (repeat (first | assumption | (with_reducible exact mZ) | apply mS)); first | done | fail)).mono ?_) | fail); clear hM0; rintro _ w ⟨rfl, hM⟩) | (refine BigFrame.wpList_want (by rfl) fun K hK => ws_build (parts := #[]) rfl (.agg (wcs 0 (z32, 0)).toArray) (by first | (simp only [List.map_toArray, List.map_nil]; exact HB0.out _) | (simp only [Array.map_empty]; exact HB0.out _)) (hK _ _ ?_); clear hK K) | (first | ((with_reducible refine at_store' ?_); (have hM0 := hM; clear hM; refine BigFrame.wpList_want (by rfl) fun K hK => ws_store hM0 rfl rfl rfl (by (repeat (first | (with_reducible exact Take.head) | apply Take.tail)); first | done | fail) (n := 34) (by exact HW0.out) (by exact HW0.out) (by kernel_rfl) (by exact wcs_oneA _ _) (fun w hM => hK _ _ ?_); clear hM0 hK K)) | fail))
  refine bodyPost_ret (results_row_tmp (P := Try.prog) (ty := 131) rfl _ _ g2 131 _ 34 _ rfl rfl (hM.blk (by (repeat (first | assumption | (with_reducible exact mZ) | apply mS)); first | done | fail)) HW0.out (by decide +kernel)) rfl ?_
  exact ⟨rfl, hM.sel (by repeat (first | (with_reducible exact Sel.refl) | (with_reducible exact Take.head) | (with_reducible apply Take.tail) | (with_reducible apply Sel.cons) | (with_reducible apply Sel.drop)))⟩
end Go.Proofs.Ytlhedbjjlomniaa
set_option linter.unusedSimpArgs false
set_option linter.unusedVariables false
namespace Go.Proofs.Ytlhedbjjlomniaa
open Go.RowKit
attribute [local go_sem] extract_mid extract_drop bget bsize wrap64_u8 i64_u8 u64_u8 bappend
theorem opt_add0w (A : Option Addr) : A.map (fun x => x.add 0) = A := by cases A <;> simp [Addr.add]
theorem ex_sliceTo {P : Program} {w : World} {o : Oper} {a : Act} {t : TypeId} {x hi : Operand} (ho : o.op = .slice t x none (some hi) none) {e : TypeId} (ht : P.underlying t = some (.slice e)) {i : Nat} (hi2 : (P.info? e).map (·.size) = some i) {A : Option Addr} {n c k : Nat} (hx : a.eval x = .slice A n c) (hh : a.eval hi = .int .i64 (k : Int)) (hk : k ≤ c) :
    (execOp a.eval o).run P w = .ok (.value (.slice A k c)) w := by
  have hr : (Instr.sliceAt t (.slice A n c) none (some (.int .i64 (k : Int))) none).run P w = .ok (.slice A k c) w := by
    obtain ⟨j, hj, rfl⟩ : ∃ j, P.info? e = some j ∧ j.size = i := by
      cases h : P.info? e with
      | none => rw [h] at hi2; cases hi2
      | some j => rw [h] at hi2; exact ⟨j, rfl, by simpa using hi2⟩
    have e0 : (if c = 0 then A else A.map (fun x => x.add (0 * j.size))) = A := by rw [Nat.zero_mul]; split <;> simp [opt_add0w]
    have h2 : ¬ ((c : Int) < (k : Int)) := by omega
    have h3 : (k : Int) ≤ (c : Int) := by omega
    simp [Instr.sliceAt, Instr.slice, Instr.sliceBounds, Instr.sliceBound, go_sem, run_underlying ht, sizeOf, typeInfo, hj, asIntOf, h2, h3]
    intro h
    omega
  unfold execOp
  simp only [ho, hx, hh, Option.map_some, Option.map_none, hr, Sem.run_bind, Sem.run_pure, Result.andThen_ok]
theorem parseN_lv2 (s : List UInt8) : (parseN s).1.2.length ≤ 8 ∧ (parseN s).1.1 ≤ 8 := by
  rcases parseN_good s with ⟨h, _⟩ | ⟨_, h, _, _⟩
  · rw [h]; simp [noN]
  · have := checkN_ok h
    omega
/-- The part that goes next onto what is to come: the parts from the last one on. -/
theorem map_rev_at {l : List Pt} (v : Int) {j p m : Nat} (hm : l.length = m) (hj : j < m) (hp : p = m - 1 - j) {d : Pt} (hd : l[p]? = some d) : ((l.map fun p => (p, v)).reverse).take (j + 1) = ((l.map fun p => (p, v)).reverse).take j ++ [(d, v)] := by
  refine take_snoc_at _ _ _ ?_
  rw [List.getElem?_reverse (by rw [List.length_map]; omega), List.length_map, hm, ← hp, List.getElem?_map, hd]
  rfl
/-- The answer for a text as a node of a step. -/
def nodeBad (s : Stp) (x : List UInt8) : Prop := (0 < s.2 ∧ (parseN x).1.1 ≠ s.2) ∨ sumP (parseN x).1.2 ≠ s.1.2
instance (s : Stp) (x : List UInt8) : Decidable (nodeBad s x) := by unfold nodeBad; infer_instance
def kidsW (x : List UInt8) : List Stp := (parseN x).1.2.map fun p => (p, (parseN x).1.1 - 1)
section
variable {F : List SProp} {b k c m d : Nat} {A B q : Option Addr} {got : Int} {l : List Stp}
set_option maxRecDepth 100000 in
set_option maxHeartbeats 8000000 in
theorem node_bad {x : List UInt8} (HP : Hid (∀ (L : List SProp) (w : World), Star L w → Calls Try.prog 28 #[.string ⟨x.toArray⟩] w (PN L x))) (s : Stp) (hs : s.1.1.length = 32) (hb : (parseN x).2 ≠ 0 ∨ nodeBad s x) (w : World) (hM : Star F w) :
    Calls Try.prog 84 #[.pointer (some ⟨b, 0, none⟩), .agg (tcs s).toArray, .string ⟨x.toArray⟩] w fun r w' => r = .returned (.int .i64 (if (parseN x).2 ≠ 0 then (parseN x).2 else 2)) ∧ Star F w' := by
  have hg := parseN_good x
  have hlv := parseN_lv2 x
  unfold nodeBad at hb
  unfold PN at HP
  generalize parseN x = Z at HP hb hg hlv
  obtain ⟨⟨nl, ps⟩, e⟩ := Z
  obtain ⟨⟨sid, sz⟩, lv⟩ := s
  simp only at HP hb hg hs hlv
  have HLV : Hid ((tcs ((sid, sz), lv)).toArray[33]? = some (.int .i64 lv)) := tcs_33 hs
  have HZ : Hid ((tcs ((sid, sz), lv)).toArray[32]? = some (.int .i64 sz)) := tcs_sz32 hs
  by_cases he : e ≠ 0
  · have hc1 : (e == 0) = false := by simpa using he
    have hc2 : (e != 0) = true := by simpa using he
    simp only [if_pos he]
    clear hb hg he hlv hs
    go_enter Try.func84, Try.ntmps84
    go_wp2_with (first | (first | ((with_reducible refine at_box' ?_); (have hM0 := hM; clear hM; refine BigFrame.wpList_want (by rfl) fun K hK => ws_box hM0 rfl rfl (cs := (tcs ((sid, sz), lv)).toArray) rfl (fun g4 w hM => hK _ _ ?_); clear hM0 hK K)) | fail) | (first | ((with_reducible refine at_box' ?_); (have hM0 := hM; clear hM; refine BigFrame.wpList_want (by rfl) fun K hK => ws_box hM0 rfl rfl (cs := (tcs ((sid, sz), nl)).toArray) rfl (fun g4 w hM => hK _ _ ?_); clear hM0 hK K)) | fail) | (first | ((with_reducible refine at_alloc' ?_); (have hM0 := hM; clear hM; refine BigFrame.wpList_want (by rfl) fun K hK => ws_alloc hM0 (t := 52) rfl (ndC 0 none 0 0) info_nd (fun g7 w hM => hK _ _ ?_); clear hM0 hK K)) | fail) | (first | ((with_reducible refine at_store' ?_); (have hM0 := hM; clear hM; refine BigFrame.wpList_want (by rfl) fun K hK => ws_store hM0 rfl rfl rfl (by (repeat (first | (with_reducible exact Take.head) | apply Take.tail)); first | done | fail) (n := 2) (by rfl) (by rfl) (by kernel_rfl) (by simp [Value.oneCell']) (fun w hM => hK _ _ ?_); clear hM0 hK K)) | fail) | (first | ((with_reducible refine at_load' ?_); (refine BigFrame.wpList_want (by rfl) fun K hK => ws_load1 hM rfl rfl (by (repeat (first | assumption | (with_reducible exact mZ) | apply mS)); first | done | fail) (by first | exact HLV.out | rfl) (by decide +kernel) (hK _ _ ?_); clear hK K)) | fail) | (go_at_call 28; have hM0 := hM; clear hM; (first | (with_reducible refine (HP.out _ _ hM0).mono ?_) | fail); clear hM0; rintro _ w ⟨A3, c3, rfl, hM⟩))
    go_ret
    exact ⟨rfl, hM.sel (by repeat (first | (with_reducible exact Sel.refl) | (with_reducible exact Take.head) | (with_reducible apply Take.tail) | (with_reducible apply Sel.cons) | (with_reducible apply Sel.drop)))⟩
  have he0 : e = 0 := by simpa using he
  subst he0
  simp only [ne_eq, not_true_eq_false, if_false, false_or] at hb ⊢
  have h32 : ok32 ps := by
    rcases hg with ⟨h, _⟩ | ⟨_, _, _, h⟩
    · injection h with _ h; subst h; intro p hp; cases hp
    · exact fun p hp => (h p hp).1
  have hbd : ∀ p ∈ ps, 0 ≤ p.2 ∧ p.2 ≤ 1000000 := by
    rcases hg with ⟨h, _⟩ | ⟨_, _, _, h⟩
    · injection h with _ h; subst h; intro p hp; cases hp
    · exact fun p hp => by have := h p hp; omega
  obtain ⟨M, hMl⟩ : ∃ M, ps.length = M := ⟨_, rfl⟩
  rw [hMl] at HP hlv
  have HSZ : Hid (∀ (A3 : Option Addr) (c3 : Nat) (L : List SProp) (w : World), Star L w → rowE 33 A3 M (pvs ps) ∈ L → Calls Try.prog 100 #[.agg (ndC nl A3 M c3)] w fun r w' => r = .returned (.int .i64 (sumP ps)) ∧ Star L w') := fun A3 c3 L w hM h => size_star nl A3 M c3 ps h32 hbd (by omega) w hM h
  generalize sumP ps = sm at HSZ hb
  clear hg hs he h32 hbd hMl
  by_cases hl : 0 < lv ∧ nl ≠ lv
  · have c1 : decide (0 < lv) = true := by simpa using hl.1
    have c2 : (nl != lv) = true := by simpa using hl.2
    have c3' : ¬ (nl = lv) := hl.2
    have c4 : (nl == lv) = false := by simpa using hl.2
    clear hb hl
    go_enter Try.func84, Try.ntmps84
    go_wp2_with (first | (first | ((with_reducible refine at_box' ?_); (have hM0 := hM; clear hM; refine BigFrame.wpList_want (by rfl) fun K hK => ws_box hM0 rfl rfl (cs := (tcs ((sid, sz), lv)).toArray) rfl (fun g4 w hM => hK _ _ ?_); clear hM0 hK K)) | fail) | (first | ((with_reducible refine at_box' ?_); (have hM0 := hM; clear hM; refine BigFrame.wpList_want (by rfl) fun K hK => ws_box hM0 rfl rfl (cs := (tcs ((sid, sz), nl)).toArray) rfl (fun g4 w hM => hK _ _ ?_); clear hM0 hK K)) | fail) | (first | ((with_reducible refine at_alloc' ?_); (have hM0 := hM; clear hM; refine BigFrame.wpList_want (by rfl) fun K hK => ws_alloc hM0 (t := 52) rfl (ndC 0 none 0 0) info_nd (fun g7 w hM => hK _ _ ?_); clear hM0 hK K)) | fail) | (first | ((with_reducible refine at_store' ?_); (have hM0 := hM; clear hM; refine BigFrame.wpList_want (by rfl) fun K hK => ws_store hM0 rfl rfl rfl (by (repeat (first | (with_reducible exact Take.head) | apply Take.tail)); first | done | fail) (n := 2) (by rfl) (by rfl) (by kernel_rfl) (by simp [Value.oneCell']) (fun w hM => hK _ _ ?_); clear hM0 hK K)) | fail) | (first | ((with_reducible refine at_load' ?_); (refine BigFrame.wpList_want (by rfl) fun K hK => ws_load1 hM rfl rfl (by (repeat (first | assumption | (with_reducible exact mZ) | apply mS)); first | done | fail) (by first | exact HLV.out | rfl) (by decide +kernel) (hK _ _ ?_); clear hK K)) | fail) | (go_at_call 28; have hM0 := hM; clear hM; (first | (with_reducible refine (HP.out _ _ hM0).mono ?_) | fail); clear hM0; rintro _ w ⟨A3, c3, rfl, hM⟩))
    go_ret
    exact ⟨rfl, hM.sel (by repeat (first | (with_reducible exact Sel.refl) | (with_reducible exact Take.head) | (with_reducible apply Take.tail) | (with_reducible apply Sel.cons) | (with_reducible apply Sel.drop)))⟩
  · have hsm : sm ≠ sz := hb.resolve_left hl
    have HSUM : Hid ((!decide (sm = sz)) = true) := by show _ = _; simp [hsm]
    by_cases h0 : 0 < lv
    · have hnl : nl = lv := by
        by_cases h : nl = lv
        · exact h
        · exact absurd ⟨h0, h⟩ hl
      subst hnl
      have c1 : decide (0 < nl) = true := by simpa using h0
      clear hb hl hsm
      go_enter Try.func84, Try.ntmps84
      go_wp2_with (first | (first | ((with_reducible refine at_box' ?_); (have hM0 := hM; clear hM; refine BigFrame.wpList_want (by rfl) fun K hK => ws_box hM0 rfl rfl (cs := (tcs ((sid, sz), lv)).toArray) rfl (fun g4 w hM => hK _ _ ?_); clear hM0 hK K)) | fail) | (first | ((with_reducible refine at_box' ?_); (have hM0 := hM; clear hM; refine BigFrame.wpList_want (by rfl) fun K hK => ws_box hM0 rfl rfl (cs := (tcs ((sid, sz), nl)).toArray) rfl (fun g4 w hM => hK _ _ ?_); clear hM0 hK K)) | fail) | (first | ((with_reducible refine at_alloc' ?_); (have hM0 := hM; clear hM; refine BigFrame.wpList_want (by rfl) fun K hK => ws_alloc hM0 (t := 52) rfl (ndC 0 none 0 0) info_nd (fun g7 w hM => hK _ _ ?_); clear hM0 hK K)) | fail) | (first | ((with_reducible refine at_store' ?_); (have hM0 := hM; clear hM; refine BigFrame.wpList_want (by rfl) fun K hK => ws_store hM0 rfl rfl rfl (by (repeat (first | (with_reducible exact Take.head) | apply Take.tail)); first | done | fail) (n := 2) (by rfl) (by rfl) (by kernel_rfl) (by simp [Value.oneCell']) (fun w hM => hK _ _ ?_); clear hM0 hK K)) | fail) | (first | ((with_reducible refine at_load' ?_); (refine BigFrame.wpList_want (by rfl) fun K hK => ws_load1 hM rfl rfl (by (repeat (first | assumption | (with_reducible exact mZ) | apply mS)); first | done | fail) (by first | exact HLV.out | rfl) (by decide +kernel) (hK _ _ ?_); clear hK K)) | fail) | (go_at_call 28; have hM0 := hM; clear hM; (first | (with_reducible refine (HP.out _ _ hM0).mono ?_) | fail); clear hM0; rintro _ w ⟨A3, c3, rfl, hM⟩))
      (refine region_RS ([cellsE g7 52 (ndC nl A3 M c3), cellsE g4 135 (tcs ((sid, sz), nl)).toArray, rowE 33 A3 M (pvs ps)]) [] (by kernel_rfl) hM ?_; clear hM; change RS _ _ _ _ _ _ 7 (Array.replicate 7 false) _ _; refine RS_take (i := 0) rfl (by decide +kernel) (fun _ _ _ h => h) (by first | (intro x hx; (repeat (first | exact hx | apply mS)); done) | ((repeat (refine List.forall_mem_cons.2 ⟨(by (repeat (first | assumption | (with_reducible exact mZ) | apply mS)); first | done | fail), ?_⟩)); intro x hx; first | (cases hx; done) | ((repeat (first | exact hx | apply mS)); done))) (stab_read (by rfl) (fun L w hL hM => (ex_load hM rfl rfl (hL _ (by (repeat (first | assumption | (with_reducible exact mZ) | apply mS)); first | done | fail)) (n := 2) rfl (by decide +kernel)))) ?_; simp only [Act.put, List.setIfInBounds_toArray, List.set_cons_zero, List.set_cons_succ]; refine RS_take (i := 1) rfl (by decide +kernel) (fun _ _ _ h => h) (by first | (intro x hx; (repeat (first | exact hx | apply mS)); done) | ((repeat (refine List.forall_mem_cons.2 ⟨(by (repeat (first | assumption | (with_reducible exact mZ) | apply mS)); first | done | fail), ?_⟩)); intro x hx; first | (cases hx; done) | ((repeat (first | exact hx | apply mS)); done))) (stab_call (by rfl) (fun w => (by go_simp; try with_reducible rfl)) (fun L w hL hM => (HSZ.out A3 c3 _ w hM (hL _ (by (repeat (first | assumption | (with_reducible exact mZ) | apply mS)); first | done | fail))))) ?_; simp only [Act.put, List.setIfInBounds_toArray, List.set_cons_zero, List.set_cons_succ]; refine RS_take (i := 2) rfl (by decide +kernel) (fun _ _ _ h => h) (by first | (intro x hx; (repeat (first | exact hx | apply mS)); done) | ((repeat (refine List.forall_mem_cons.2 ⟨(by (repeat (first | assumption | (with_reducible exact mZ) | apply mS)); first | done | fail), ?_⟩)); intro x hx; first | (cases hx; done) | ((repeat (first | exact hx | apply mS)); done))) (stab_pure (by rfl) (fun w => (by go_simp; try with_reducible rfl))) ?_; simp only [Act.put, List.setIfInBounds_toArray, List.set_cons_zero, List.set_cons_succ]; refine RS_take (i := 3) rfl (by decide +kernel) (fun _ _ _ h => h) (by first | (intro x hx; (repeat (first | exact hx | apply mS)); done) | ((repeat (refine List.forall_mem_cons.2 ⟨(by (repeat (first | assumption | (with_reducible exact mZ) | apply mS)); first | done | fail), ?_⟩)); intro x hx; first | (cases hx; done) | ((repeat (first | exact hx | apply mS)); done))) (stab_pure (by rfl) (fun w => (by go_simp; try with_reducible rfl))) ?_; simp only [Act.put, List.setIfInBounds_toArray, List.set_cons_zero, List.set_cons_succ]; refine RS_take (i := 4) rfl (by decide +kernel) (fun _ _ _ h => h) (by first | (intro x hx; (repeat (first | exact hx | apply mS)); done) | ((repeat (refine List.forall_mem_cons.2 ⟨(by (repeat (first | assumption | (with_reducible exact mZ) | apply mS)); first | done | fail), ?_⟩)); intro x hx; first | (cases hx; done) | ((repeat (first | exact hx | apply mS)); done))) (stab_read (by rfl) (fun L w hL hM => (ex_load1 (v := .int .i64 sz) hM rfl rfl (hL _ (by (repeat (first | assumption | (with_reducible exact mZ) | apply mS)); first | done | fail)) HZ.out (by decide +kernel)))) ?_; simp only [Act.put, List.setIfInBounds_toArray, List.set_cons_zero, List.set_cons_succ]; refine RS_take (i := 5) rfl (by decide +kernel) (fun _ _ _ h => h) (by first | (intro x hx; (repeat (first | exact hx | apply mS)); done) | ((repeat (refine List.forall_mem_cons.2 ⟨(by (repeat (first | assumption | (with_reducible exact mZ) | apply mS)); first | done | fail), ?_⟩)); intro x hx; first | (cases hx; done) | ((repeat (first | exact hx | apply mS)); done))) (stab_read (by rfl) (fun L w hL hM => (ex_ne rfl rfl rfl HSUM.out))) ?_; simp only [Act.put, List.setIfInBounds_toArray, List.set_cons_zero, List.set_cons_succ]; refine RS_take (i := 6) rfl (by decide +kernel) (fun _ _ _ h => h) (by first | (intro x hx; (repeat (first | exact hx | apply mS)); done) | ((repeat (refine List.forall_mem_cons.2 ⟨(by (repeat (first | assumption | (with_reducible exact mZ) | apply mS)); first | done | fail), ?_⟩)); intro x hx; first | (cases hx; done) | ((repeat (first | exact hx | apply mS)); done))) (stab_pure (by rfl) (fun w => (by go_simp; try with_reducible rfl))) ?_; simp only [Act.put, List.setIfInBounds_toArray, List.set_cons_zero, List.set_cons_succ]; refine RS_done (by decide +kernel) (.inl (by first | (intro x hx; (repeat (first | exact hx | apply mS)); done) | ((repeat (refine List.forall_mem_cons.2 ⟨(by (repeat (first | assumption | (with_reducible exact mZ) | apply mS)); first | done | fail), ?_⟩)); intro x hx; first | (cases hx; done) | ((repeat (first | exact hx | apply mS)); done)))) (fun w hM => ?_))
      go_wp2_with fail; go_ret; exact ⟨rfl, hM.sel (by repeat (first | (with_reducible exact Sel.refl) | (with_reducible exact Take.head) | (with_reducible apply Take.tail) | (with_reducible apply Sel.cons) | (with_reducible apply Sel.drop)))⟩
    · have c1 : decide (0 < lv) = false := by simpa using h0
      clear hb hl hsm
      go_enter Try.func84, Try.ntmps84
      go_wp2_with (first | (first | ((with_reducible refine at_box' ?_); (have hM0 := hM; clear hM; refine BigFrame.wpList_want (by rfl) fun K hK => ws_box hM0 rfl rfl (cs := (tcs ((sid, sz), lv)).toArray) rfl (fun g4 w hM => hK _ _ ?_); clear hM0 hK K)) | fail) | (first | ((with_reducible refine at_box' ?_); (have hM0 := hM; clear hM; refine BigFrame.wpList_want (by rfl) fun K hK => ws_box hM0 rfl rfl (cs := (tcs ((sid, sz), nl)).toArray) rfl (fun g4 w hM => hK _ _ ?_); clear hM0 hK K)) | fail) | (first | ((with_reducible refine at_alloc' ?_); (have hM0 := hM; clear hM; refine BigFrame.wpList_want (by rfl) fun K hK => ws_alloc hM0 (t := 52) rfl (ndC 0 none 0 0) info_nd (fun g7 w hM => hK _ _ ?_); clear hM0 hK K)) | fail) | (first | ((with_reducible refine at_store' ?_); (have hM0 := hM; clear hM; refine BigFrame.wpList_want (by rfl) fun K hK => ws_store hM0 rfl rfl rfl (by (repeat (first | (with_reducible exact Take.head) | apply Take.tail)); first | done | fail) (n := 2) (by rfl) (by rfl) (by kernel_rfl) (by simp [Value.oneCell']) (fun w hM => hK _ _ ?_); clear hM0 hK K)) | fail) | (first | ((with_reducible refine at_load' ?_); (refine BigFrame.wpList_want (by rfl) fun K hK => ws_load1 hM rfl rfl (by (repeat (first | assumption | (with_reducible exact mZ) | apply mS)); first | done | fail) (by first | exact HLV.out | rfl) (by decide +kernel) (hK _ _ ?_); clear hK K)) | fail) | (go_at_call 28; have hM0 := hM; clear hM; (first | (with_reducible refine (HP.out _ _ hM0).mono ?_) | fail); clear hM0; rintro _ w ⟨A3, c3, rfl, hM⟩))
      (refine region_RS ([cellsE g7 52 (ndC nl A3 M c3), cellsE g4 135 (tcs ((sid, sz), lv)).toArray, rowE 33 A3 M (pvs ps)]) [] (by kernel_rfl) hM ?_; clear hM; change RS _ _ _ _ _ _ 7 (Array.replicate 7 false) _ _; refine RS_take (i := 0) rfl (by decide +kernel) (fun _ _ _ h => h) (by first | (intro x hx; (repeat (first | exact hx | apply mS)); done) | ((repeat (refine List.forall_mem_cons.2 ⟨(by (repeat (first | assumption | (with_reducible exact mZ) | apply mS)); first | done | fail), ?_⟩)); intro x hx; first | (cases hx; done) | ((repeat (first | exact hx | apply mS)); done))) (stab_read (by rfl) (fun L w hL hM => (ex_load hM rfl rfl (hL _ (by (repeat (first | assumption | (with_reducible exact mZ) | apply mS)); first | done | fail)) (n := 2) rfl (by decide +kernel)))) ?_; simp only [Act.put, List.setIfInBounds_toArray, List.set_cons_zero, List.set_cons_succ]; refine RS_take (i := 1) rfl (by decide +kernel) (fun _ _ _ h => h) (by first | (intro x hx; (repeat (first | exact hx | apply mS)); done) | ((repeat (refine List.forall_mem_cons.2 ⟨(by (repeat (first | assumption | (with_reducible exact mZ) | apply mS)); first | done | fail), ?_⟩)); intro x hx; first | (cases hx; done) | ((repeat (first | exact hx | apply mS)); done))) (stab_call (by rfl) (fun w => (by go_simp; try with_reducible rfl)) (fun L w hL hM => (HSZ.out A3 c3 _ w hM (hL _ (by (repeat (first | assumption | (with_reducible exact mZ) | apply mS)); first | done | fail))))) ?_; simp only [Act.put, List.setIfInBounds_toArray, List.set_cons_zero, List.set_cons_succ]; refine RS_take (i := 2) rfl (by decide +kernel) (fun _ _ _ h => h) (by first | (intro x hx; (repeat (first | exact hx | apply mS)); done) | ((repeat (refine List.forall_mem_cons.2 ⟨(by (repeat (first | assumption | (with_reducible exact mZ) | apply mS)); first | done | fail), ?_⟩)); intro x hx; first | (cases hx; done) | ((repeat (first | exact hx | apply mS)); done))) (stab_pure (by rfl) (fun w => (by go_simp; try with_reducible rfl))) ?_; simp only [Act.put, List.setIfInBounds_toArray, List.set_cons_zero, List.set_cons_succ]; refine RS_take (i := 3) rfl (by decide +kernel) (fun _ _ _ h => h) (by first | (intro x hx; (repeat (first | exact hx | apply mS)); done) | ((repeat (refine List.forall_mem_cons.2 ⟨(by (repeat (first | assumption | (with_reducible exact mZ) | apply mS)); first | done | fail), ?_⟩)); intro x hx; first | (cases hx; done) | ((repeat (first | exact hx | apply mS)); done))) (stab_pure (by rfl) (fun w => (by go_simp; try with_reducible rfl))) ?_; simp only [Act.put, List.setIfInBounds_toArray, List.set_cons_zero, List.set_cons_succ]; refine RS_take (i := 4) rfl (by decide +kernel) (fun _ _ _ h => h) (by first | (intro x hx; (repeat (first | exact hx | apply mS)); done) | ((repeat (refine List.forall_mem_cons.2 ⟨(by (repeat (first | assumption | (with_reducible exact mZ) | apply mS)); first | done | fail), ?_⟩)); intro x hx; first | (cases hx; done) | ((repeat (first | exact hx | apply mS)); done))) (stab_read (by rfl) (fun L w hL hM => (ex_load1 (v := .int .i64 sz) hM rfl rfl (hL _ (by (repeat (first | assumption | (with_reducible exact mZ) | apply mS)); first | done | fail)) HZ.out (by decide +kernel)))) ?_; simp only [Act.put, List.setIfInBounds_toArray, List.set_cons_zero, List.set_cons_succ]; refine RS_take (i := 5) rfl (by decide +kernel) (fun _ _ _ h => h) (by first | (intro x hx; (repeat (first | exact hx | apply mS)); done) | ((repeat (refine List.forall_mem_cons.2 ⟨(by (repeat (first | assumption | (with_reducible exact mZ) | apply mS)); first | done | fail), ?_⟩)); intro x hx; first | (cases hx; done) | ((repeat (first | exact hx | apply mS)); done))) (stab_read (by rfl) (fun L w hL hM => (ex_ne rfl rfl rfl HSUM.out))) ?_; simp only [Act.put, List.setIfInBounds_toArray, List.set_cons_zero, List.set_cons_succ]; refine RS_take (i := 6) rfl (by decide +kernel) (fun _ _ _ h => h) (by first | (intro x hx; (repeat (first | exact hx | apply mS)); done) | ((repeat (refine List.forall_mem_cons.2 ⟨(by (repeat (first | assumption | (with_reducible exact mZ) | apply mS)); first | done | fail), ?_⟩)); intro x hx; first | (cases hx; done) | ((repeat (first | exact hx | apply mS)); done))) (stab_pure (by rfl) (fun w => (by go_simp; try with_reducible rfl))) ?_; simp only [Act.put, List.setIfInBounds_toArray, List.set_cons_zero, List.set_cons_succ]; refine RS_done (by decide +kernel) (.inl (by first | (intro x hx; (repeat (first | exact hx | apply mS)); done) | ((repeat (refine List.forall_mem_cons.2 ⟨(by (repeat (first | assumption | (with_reducible exact mZ) | apply mS)); first | done | fail), ?_⟩)); intro x hx; first | (cases hx; done) | ((repeat (first | exact hx | apply mS)); done)))) (fun w hM => ?_))
      go_wp2_with fail; go_ret; exact ⟨rfl, hM.sel (by repeat (first | (with_reducible exact Sel.refl) | (with_reducible exact Take.head) | (with_reducible apply Take.tail) | (with_reducible apply Sel.cons) | (with_reducible apply Sel.drop)))⟩
end
end Go.Proofs.Ytlhedbjjlomniaa
