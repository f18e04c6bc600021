/- What the laws share, part 4 (SecC, SecN, SecE, BkP, BkA, BkB, BkL). No condition but those that each theorem names. -/
import Derived.Test.YtnckgkgilnmocaaU1
import Derived.Test.YtnckgkgilnmocaaU2
import Derived.Test.YtnckgkgilnmocaaU3
import Derived.Lib.Bytealg
import Derived.Lib.UnsafeStr
set_option linter.unusedSimpArgs false
set_option linter.unusedVariables false
namespace Go.Proofs.Ytnckgkgilnmocaa
open Go.RowKit
attribute [local go_sem] extract_mid extract_drop bget bsize wrap64_u8 i64_u8 u64_u8 bappend
def ksI (D : Dsk) : List Int := D.keys.map fun i : Nat => (i : Int)
theorem ksI_len (D : Dsk) : (ksI D).length = D.keys.length := by simp [ksI]
theorem ksI_rises (D : Dsk) : (ksI D).Pairwise (· < ·) := by
  unfold ksI
  rw [List.pairwise_map]
  exact (keys_sorted D).imp fun {a b} h => by omega
theorem lmv_ks (D : Dsk) : lmv D = (ksI D).map fun i => (.int .i64 i, avb (D.nw i.toNat)) := by
  unfold lmv ksI
  rw [List.map_map]
  rfl
theorem bvs_flat_part {S : List (List UInt8)} (h : ∀ b ∈ S, b.length = 64) {i n : Nat} (hi : i < S.length) (hn : n ≤ 64) {b : List UInt8} (hb : b.length = 64) :
    ((bvs S.flatten).take (i * 64) ++ bvs (b.take n) ++ (bvs S.flatten).drop (i * 64 + (bvs (b.take n)).length)) = bvs (S.set i (b.take n ++ (S.getD i []).drop n)).flatten := by
  obtain ⟨e, hl⟩ := flat_cut h hi
  have h64 : S[i].length = 64 := h _ (List.getElem_mem hi)
  have hg : S.getD i [] = S[i] := by rw [List.getD_eq_getElem?_getD, List.getElem?_eq_getElem hi]; rfl
  have hbn : (bvs (b.take n)).length = n := by rw [bvs_len, List.length_take]; omega
  have e1 : S.flatten.take (i * 64) = (S.take i).flatten := by rw [e, List.append_assoc, List.take_append_of_le_length (by omega), List.take_of_length_le (by omega)]
  have e2 : S.flatten.drop (i * 64 + n) = S[i].drop n ++ (S.drop (i + 1)).flatten := by
    rw [e, List.append_assoc, List.drop_append, List.drop_of_length_le (by omega), List.nil_append, List.drop_append_of_le_length (by omega), show i * 64 + n - (S.take i).flatten.length = n by omega]
  have e3 : (S.set i (b.take n ++ (S.getD i []).drop n)).flatten = (S.take i).flatten ++ (b.take n ++ S[i].drop n) ++ (S.drop (i + 1)).flatten := by
    rw [hg, List.set_eq_take_append_cons_drop, if_pos hi]
    simp
  rw [hbn, e3, ← e1]
  have e4 : (bvs S.flatten).drop (i * 64 + n) = bvs (S[i].drop n ++ (S.drop (i + 1)).flatten) := by rw [← e2]; simp only [bvs, List.map_drop]
  rw [e4]
  simp only [bvs, List.map_append, List.map_take, List.append_assoc]
section
variable {P : Program} {w : World} {ops : Array Oper} {o : Oper} {ac : Act} {Q : Exit → Act → World → Prop} {L R : List SProp} {K : Act → World → Prop}
theorem ws_copy_sec {a : DA} (hM : Star L w) {d s : Operand} {dT sT : TypeId} (ho : o.op = .call { callee := .builtin .copy, args := #[d, s], argTypes := #[dT, sT] }) (elem : TypeId) (hu : P.underlying dT = some (.slice elem)) (hs : (P.info? elem).map (·.size) = some 1) (i n : Nat) {c c2 g7 : Nat} {t7 : TypeId} {S : List (List UInt8)} {b : List UInt8} (hd : ac.eval d = .slice (some ⟨a.g, i * 64, none⟩) n c) (hx : ac.eval s = .slice (some ⟨g7, 0, none⟩) n c2) (h7 : cellsE g7 t7 (bvs b).toArray ∈ L) (hS : ∀ b ∈ S, b.length = 64) (hi : i < S.length) (hb64 : b.length = 64) (hn : n ≤ 64) (hb : Take (sE a S) L R)
    (h : ∀ w1, Star (sE a (S.set i (b.take n ++ (S.getD i []).drop n)) :: R) w1 → K (ac.put o.dst (goInt n)) w1) : Oper.wp P o ac w K Q := by
  have hB : Blk w a.g 97 (bvs S.flatten).toArray := (hM.take hb).head
  have h7b := hM.blk h7
  have hl : S.flatten.length = 64 * S.length := flat_64 hS
  have hbn : (bvs (b.take n)).length = n := by rw [bvs_len, List.length_take]; omega
  have hrun := run_copy_row (P := P) w dT sT o.type elem a.g (i * 64) n c 97 (bvs S.flatten).toArray ⟨g7, 0, none⟩ c2 (bvs (b.take n)) hu hs hbn (fun j u hj => by
    rw [add_lit, Nat.zero_add, h7b.cell]
    have hj2 : j < n := by have := (List.getElem?_eq_some_iff.1 hj).1; omega
    simp only [bvs, List.map_take, List.getElem?_take, hj2, if_true] at hj
    simpa [bvs] using hj) hB (by rw [List.size_toArray, bvs_len, hl]; omega) (fun u hu => bvs_oneCell _ u hu)
  have hcs := bvs_flat_part hS hi hn hb64
  rw [List.toList_toArray, hcs] at hrun
  unfold Oper.wp
  simp only [execOp, ho, resolve, invoke, builtin, Sem.run_bind, Sem.run_pure, Result.andThen_ok, List.map_toArray, List.map_cons, List.map_nil, hd, hx, hrun]
  exact h _ ((hM.take hb).put (bs := [a.g]) rfl (setRow_ch w a.g _) (fun b hb => .inl (List.mem_singleton.1 hb)) (setRow_blk hB _) fun k hk => .inl hk)
end
/-- The first n elements of an array. -/
theorem ex_slice_arr {P : Program} {w : World} {o : Oper} {ac : Act} {t e : TypeId} {x y : Operand} (ho : o.op = .slice t x none (some y) none) {N : Nat} (ht : P.underlying t = some (.array N e)) (hs : (P.info? e).map (·.size) = some 1) {ad : Addr} (hx : ac.eval x = .pointer (some ad)) (hN : 0 < N) {n : Nat} (hy : ac.eval y = .int .i64 (n : Int)) (hn : n ≤ N) :
    (execOp ac.eval o).run P w = .ok (.value (.slice (some ad) n N)) w := by
  have hr : (Instr.sliceAt t (.pointer (some ad)) none (some (.int .i64 (n : Int))) none).run P w = .ok (.slice (some ad) n N) w := by
    obtain ⟨j, hj, hj1⟩ : ∃ j, P.info? e = some j ∧ j.size = 1 := by
      cases h : P.info? e with
      | none => rw [h] at hs; cases hs
      | some j => rw [h] at hs; exact ⟨j, rfl, by simpa using hs⟩
    have h2 : (n : Int) ≤ (N : Int) := by omega
    simp [Instr.sliceAt, Instr.sureAddr, Instr.sliceBounds, Instr.sliceBound, go_sem, run_underlying ht, sizeOf, typeInfo, hj, asIntOf, h2, hn]
  unfold execOp
  simp only [ho, hx, hy, Option.map_none, Option.map_some, hr, Sem.run_bind, Sem.run_pure, Result.andThen_ok]
/-- How many bytes of the j-th loose sector are kept. -/
def chN (ch : List Int) (j : Nat) : Nat := match ch[j]? with
  | some x => if 64 < (if x < 0 then (0 : Int) else x) then 64 else (if x < 0 then (0 : Int) else x).toNat
  | none => 0
theorem chN_le (ch : List Int) (j : Nat) : chN ch j ≤ 64 := by
  have h : ∀ y : Int, (if 64 < y then 64 else y.toNat) ≤ 64 := fun y => by split <;> omega
  unfold chN
  split
  · exact h _
  · omega
def crB (D : Dsk) (ch : List Int) (i j : Nat) : List UInt8 := (D.nw i).take (chN ch j) ++ (D.su i).drop (chN ch j)
def crL (D : Dsk) (ch : List Int) : List (Nat × List UInt8) := D.keys.zipIdx.map fun p => (p.1, crB D ch p.1 p.2)
/-- Behind a crash. -/
def crD (D : Dsk) (ch : List Int) : Dsk := { D.calm (upd D.sure (crL D ch)) with armed := false }
theorem crL_len (D : Dsk) (ch : List Int) : (crL D ch).length = D.keys.length := by simp [crL]
theorem crL_fst (D : Dsk) (ch : List Int) : (crL D ch).map (·.1) = D.keys := by
  unfold crL
  rw [List.map_map]
  exact List.zipIdx_map_fst 0 D.keys
theorem crL_get {D : Dsk} {ch : List Int} {k i : Nat} (h : D.keys[k]? = some i) : (crL D ch)[k]? = some (i, crB D ch i k) := by
  unfold crL
  rw [List.getElem?_map, List.getElem?_zipIdx, h]
  simp
theorem crB_len {D : Dsk} (h : D.ok) (ch : List Int) {i : Nat} (hi : i < D.sure.length) (j : Nat) : (crB D ch i j).length = 64 := by
  have h1 := nw_len h hi
  have h2 := su_len h hi
  have h3 := chN_le ch j
  unfold crB
  rw [List.length_append, List.length_take, List.length_drop]
  omega
theorem crL_64 {D : Dsk} (h : D.ok) (ch : List Int) : ∀ p ∈ crL D ch, p.2.length = 64 := by
  intro p hp
  obtain ⟨q, hq, rfl⟩ := List.mem_map.1 hp
  have hk : q.1 ∈ D.keys := by
    have h9 : q.1 ∈ D.keys.zipIdx.map Prod.fst := List.mem_map.2 ⟨q, hq, rfl⟩
    rwa [List.zipIdx_map_fst] at h9
  exact crB_len h ch ((mem_keys D _).1 hk).1 _
theorem crD_ok {D : Dsk} (h : D.ok) (ch : List Int) : (crD D ch).ok := by
  have h1 := calm_ok h (s := upd D.sure (crL D ch)) (upd_64 h.s64 (crL_64 h ch)) (upd_len _ _)
  exact ⟨h1.ln, h1.ll, h1.s64, h1.n64, h1.same, h1.size, h1.i64a, h1.i64b, fun e => by cases e⟩
section
variable {F : List SProp} {a : DA} {D : Dsk}
set_option maxRecDepth 100000 in
set_option maxHeartbeats 2000000 in
theorem loose_d (h : D.ok) (w : World) (hM : Star (diskE a D :: F) w) :
    Calls Try.prog 51 #[dptr a] w fun r w' => ∃ A c, r = .returned (.slice A D.keys.length c) ∧ Star (rowE 1 A D.keys.length (ivs (ksI D)) :: diskE a D :: F) w' := by
  have hkl := keys_le D
  have hsz := h.size
  have HR := Lib.hid (ksI_rises D)
  have HKL := Lib.hid (ksI_len D)
  replace hM := hM.dopen
  have HB : Hid ((ksI D).length ≤ 1000000) := by show _ ≤ _; rw [ksI_len]; omega
  have hLM := lmv_ks D
  obtain ⟨ks, hks⟩ : ∃ ks, ks = ksI D := ⟨_, rfl⟩
  rw [← hks] at HR HKL HB hLM
  rw [hLM] at hM
  have HLM := Lib.hid hLM
  have HKS := Lib.hid hks
  clear hLM hks h hkl
  go_enter Try.func51, Try.ntmps51
  go_wp2_with (first | (first | ((with_reducible refine at_load' ?_); (refine BigFrame.wpList_want (by rfl) fun K hK => ws_load1 hM rfl rfl (by (repeat (first | assumption | (with_reducible exact mZ) | apply mS)); first | done | fail) (by first | rfl | assumption) (by decide +kernel) (hK _ _ ?_); clear hK K)) | fail) | (go_at_call 81; have hM0 := hM; clear hM; (first | (with_reducible refine (keysA_star _ hM0 (by (repeat (first | assumption | (with_reducible exact mZ) | apply mS)); first | done | fail)).mono ?_) | fail); clear hM0; rintro _ w ⟨g, rfl, hSR, hM⟩) | (go_at_call 80; have hM0 := hM; clear hM; (first | (with_reducible refine (sortA_star HR.out HB.out _ hSR.out).mono ?_) | fail); clear hM0; rintro _ w ⟨A, c, rfl, hM⟩))
  go_ret
  have hM3 : Star (rowE 1 A ks.length (ivs ks) :: dE a D.sure.length :: fE a D.armed D.left :: sE a D.sure :: mE a (ks.map fun i => (.int .i64 i, avb (D.nw i.toNat))) :: F) _ := hM.sel (by repeat (first | (with_reducible exact Sel.refl) | (with_reducible exact Take.head) | (with_reducible apply Take.tail) | (with_reducible apply Sel.cons) | (with_reducible apply Sel.drop)))
  rw [← HLM.out, HKL.out] at hM3
  rw [HKL.out]
  refine ⟨A, c, rfl, ?_⟩
  rw [← HKS.out]
  exact (Star.djoin (D := D) (hM3.sel (by repeat (first | (with_reducible exact Sel.refl) | (with_reducible exact Take.head) | (with_reducible apply Take.tail) | (with_reducible apply Sel.cons) | (with_reducible apply Sel.drop))) : Star (dE a D.sure.length :: fE a D.armed D.left :: sE a D.sure :: mE a (lmv D) :: rowE 1 A D.keys.length (ivs ks) :: F) _)).sel (by repeat (first | (with_reducible exact Sel.refl) | (with_reducible exact Take.head) | (with_reducible apply Take.tail) | (with_reducible apply Sel.cons) | (with_reducible apply Sel.drop)))
set_option maxRecDepth 100000 in
set_option maxHeartbeats 4000000 in
theorem crash_d (h : D.ok) {ch : List Int} {CA : Option Addr} {cn cc : Nat} (hcn : cn ≤ 9223372036854775807) (hch : ∀ x ∈ ch, -9223372036854775808 ≤ x ∧ x ≤ 9223372036854775807) (w : World) (hM : Star (diskE a D :: F) w) (hF : rowE 1 CA cn (ivs ch) ∈ F) :
    Calls Try.prog 23 #[dptr a, .slice CA cn cc] w fun r w' => r = .returned (.tuple #[]) ∧ Star (diskE a (crD D ch) :: F) w' := by
  have hsz := h.size
  have hkl := keys_le D
  have HH := Lib.hid h
  have HCH := Lib.hid hch
  have HCL : Hid (ch.length = cn) := by have h9 := (hM.row (A := CA) (n := cn) (xs := ivs ch) (List.mem_cons_of_mem _ hF)).1; rw [ivs_len, Nat.mul_one] at h9; exact h9
  obtain ⟨N, hN⟩ : ∃ N, D.keys.length = N := ⟨_, rfl⟩
  have HL : Hid (∀ (L : List SProp) (w : World), Star (diskE a D :: L) w → Calls Try.prog 51 #[dptr a] w fun r w' => ∃ A c, r = .returned (.slice A N c) ∧ Star (rowE 1 A N (ivs (ksI D)) :: dE a D.sure.length :: fE a D.armed D.left :: sE a D.sure :: mE a (lmv D) :: L) w') := fun L w hM => by
    have := loose_d h w hM
    rw [hN] at this
    exact this.mono fun _ _ ⟨A, c, e, h⟩ => ⟨A, c, e, (h.take (.tail .head)).dopen.sel (by repeat (first | (with_reducible exact Sel.refl) | (with_reducible exact Take.head) | (with_reducible apply Take.tail) | (with_reducible apply Sel.cons) | (with_reducible apply Sel.drop)))⟩
  have HN := Lib.hid hN
  rw [hN] at hkl
  clear h hch hN
  go_enter Try.func23, Try.ntmps23
  go_wp2_with (first | (go_at_call 51; have hM0 := hM; clear hM; (first | (with_reducible refine (HL.out _ _ hM0).mono ?_) | fail); clear hM0; rintro _ w ⟨A, c, rfl, hM⟩))
  go_loopw [11] (fun i wr => ∃ k : Nat, k ≤ N ∧ i = .int .i64 k ∧ Star (rowE 1 A N (ivs (ksI D)) :: dE a D.sure.length :: fE a D.armed D.left :: sE a (upd D.sure ((crL D ch).take k)) :: mE a (lmv D) :: F) wr) (fun i _ => N - (intOf i).toNat)
  case atStart => exact ⟨0, by omega, rfl, (hM.sel (by repeat (first | (with_reducible exact Sel.refl) | (with_reducible exact Take.head) | (with_reducible apply Take.tail) | (with_reducible apply Sel.cons) | (with_reducible apply Sel.drop))) : Star (rowE 1 A N (ivs (ksI D)) :: dE a D.sure.length :: fE a D.armed D.left :: sE a D.sure :: mE a (lmv D) :: F) _)⟩
  case round =>
    clear hM
    obtain ⟨k, hk, rfl, hM⟩ := hrel
    by_cases hlt : k < N
    · obtain ⟨ad, ki, rfl, hv, hg, _⟩ := hM.elemI (A := A) (n := N) (l := ksI D) (by (repeat (first | assumption | (with_reducible exact mZ) | apply mS)); first | done | fail) hlt
      obtain ⟨i, hi, rfl⟩ : ∃ i, D.keys[k]? = some i ∧ ki = (i : Int) := by
        unfold ksI at hg
        rw [List.getElem?_map] at hg
        obtain ⟨i, h1, h2⟩ := Option.map_eq_some_iff.1 hg
        exact ⟨i, h1, h2.symm⟩
      have hik := (mem_keys D i).1 (List.mem_of_getElem? hi)
      have hin := hik.1
      have hiI : (i : Int) < (D.sure.length : Int) := by omega
      have HK := Lib.hid (int_key i (by omega))
      have HHIT := Lib.hid (lmv_hit hik.1 hik.2)
      have HNL := Lib.hid (nw_len HH.out hin)
      have HG := Lib.hid (crL_get (ch := ch) hi)
      have hS64 : ∀ b ∈ upd D.sure ((crL D ch).take k), b.length = 64 := upd_64 HH.out.s64 fun p hp => crL_64 HH.out ch p (List.mem_of_mem_take hp)
      have hSl : (upd D.sure ((crL D ch).take k)).length = D.sure.length := upd_len _ _
      have hSi : (upd D.sure ((crL D ch).take k)).getD i [] = D.su i := by
        have hnd : (((crL D ch).take k).map (·.1)).Nodup := by
          rw [List.map_take, crL_fst]
          exact (keys_nodup D).sublist (List.take_sublist _ _)
        have h2 := (upd_get (S := D.sure) hnd i).2 fun b hb => by
          have h3 : i ∈ (D.keys.take k) := by
            rw [← crL_fst D ch, ← List.map_take]
            exact List.mem_map.2 ⟨_, hb, rfl⟩
          obtain ⟨j, hj, hje⟩ := List.mem_iff_getElem.1 h3
          rw [List.length_take] at hj
          have h4 : D.keys[j]? = some i := by
            rw [List.getElem_take] at hje
            rw [List.getElem?_eq_getElem (by omega), hje]
          have := (List.getElem?_inj (by omega) (keys_nodup D)).1 (h4.trans hi.symm)
          omega
        rw [List.getD_eq_getElem?_getD, h2]
        rfl
      obtain ⟨S, hS⟩ : ∃ S, S = upd D.sure ((crL D ch).take k) := ⟨_, rfl⟩
      rw [← hS] at hM hS64 hSl hSi
      have HS64 := Lib.hid hS64
      have HIS : Hid (i < S.length) := by show _ < _; omega
      have HNX : Hid (upd D.sure ((crL D ch).take (k + 1)) = S.set i ((D.nw i).take (chN ch k) ++ (S.getD i []).drop (chN ch k))) := by
        show _ = _
        rw [take_snoc_at _ _ _ HG.out, upd_snoc, hSi, hS]
        rfl
      have hn64 := chN_le ch k
      obtain ⟨n, hn⟩ : ∃ n, n = chN ch k := ⟨_, rfl⟩
      rw [← hn] at HNX hn64
      clear hS hS64 hSl hSi hg hi hik
      have HN64 := Lib.hid hn64
      by_cases hkc : k < cn
      · obtain ⟨adP, p, rfl, hpc, hpg, _⟩ := hM.elemI (A := CA) (n := cn) (l := ch) (List.mem_cons_of_mem _ (List.mem_cons_of_mem _ (List.mem_cons_of_mem _ (List.mem_cons_of_mem _ (List.mem_cons_of_mem _ hF))))) hkc
        have hpok := HCH.out p (List.mem_of_getElem? hpg)
        obtain ⟨m1, hm1⟩ : ∃ m1 : Int, (if p < 0 then (0 : Int) else p) = m1 := ⟨_, rfl⟩
        have hm2 : (if 64 < m1 then (64 : Int) else m1) = (n : Int) := by
          rw [hn]
          unfold chN
          rw [hpg]
          simp only [hm1]
          have : 0 ≤ m1 := by rw [← hm1]; split <;> omega
          split <;> omega
        have hm3 : min (max p 0) 64 = (n : Int) := by rw [← hm2, ← hm1]; split <;> split <;> omega
        have hkcI : (k : Int) < (cn : Int) := by omega
        clear hn hpg
        go_wp2_with (first | (first | ((with_reducible refine at_load' ?_); (refine BigFrame.wpList_want (by rfl) fun K hK => ws_rowload rfl rfl (by first | (apply Star.row hM; (repeat (first | assumption | (with_reducible exact mZ) | apply mS)); done) | (apply Star.own hM; (repeat (first | assumption | (with_reducible exact mZ) | apply mS)); done) | (apply Star.arr hM; (focus ((repeat (first | assumption | (with_reducible exact mZ) | apply mS)); done)); assumption)) (by assumption) (by kernel_rfl) (hK _ _ ?_); clear hK K)) | fail) | (first | ((with_reducible refine at_load' ?_); (refine BigFrame.wpList_want (by rfl) fun K hK => ws_load1 hM rfl rfl (by (repeat (first | assumption | (with_reducible exact mZ) | apply mS)); first | done | fail) (by first | rfl | assumption) (by decide +kernel) (hK _ _ ?_); clear hK K)) | fail) | (first | ((with_reducible refine at_lookup' ?_); (refine BigFrame.wpList_want (by rfl) fun K hK => ws_of_ex (ex_hit1 (key := iv64 i) hM rfl Try.underlying93 rfl rfl (by (repeat (first | assumption | (with_reducible exact mZ) | apply mS)); first | done | fail) keyed_i HK.out HHIT.out) (hK _ _ ?_); clear hK K)) | fail) | (first | ((with_reducible refine at_alloc' ?_); (have hM0 := hM; clear hM; refine BigFrame.wpList_want (by rfl) fun K hK => ws_alloc hM0 (t := 97) rfl (bvs zs64).toArray info_blkz (fun g7 w hM => hK _ _ ?_); clear hM0 hK K)) | fail) | (first | ((with_reducible refine at_store' ?_); (have hM0 := hM; clear hM; refine BigFrame.wpList_want (by rfl) fun K hK => ws_store hM0 rfl rfl rfl (by (repeat (first | (with_reducible exact Take.head) | apply Take.tail)); first | done | fail) (n := 64) (by simp [bvs_len, HNL.out]) (by rfl) (by kernel_rfl) (by simpa using bvs_oneCell _) (fun w hM => hK _ _ ?_); clear hM0 hK K)) | fail))
        (refine region_RS ([dE a D.sure.length, cellsE g7 97 (bvs (D.nw i)).toArray]) [10] (by kernel_rfl) hM ?_; clear hM; change RS _ _ _ _ _ _ 11 (Array.replicate 11 false) _ _; refine RS_take (i := 0) rfl (by decide +kernel) (fun _ _ _ h => h) (by first | (intro x hx; (repeat (first | exact hx | apply mS)); done) | ((repeat (refine List.forall_mem_cons.2 ⟨(by (repeat (first | assumption | (with_reducible exact mZ) | apply mS)); first | done | fail), ?_⟩)); intro x hx; first | (cases hx; done) | ((repeat (first | exact hx | apply mS)); done))) (stab_pure (by rfl) (fun w => (by go_simp; try with_reducible rfl))) ?_; simp only [Act.put, List.setIfInBounds_toArray, List.set_cons_zero, List.set_cons_succ]; refine RS_take (i := 1) rfl (by decide +kernel) (fun _ _ _ h => h) (by first | (intro x hx; (repeat (first | exact hx | apply mS)); done) | ((repeat (refine List.forall_mem_cons.2 ⟨(by (repeat (first | assumption | (with_reducible exact mZ) | apply mS)); first | done | fail), ?_⟩)); intro x hx; first | (cases hx; done) | ((repeat (first | exact hx | apply mS)); done))) (stab_pure (by rfl) (fun w => (by go_simp; try with_reducible rfl))) ?_; simp only [Act.put, List.setIfInBounds_toArray, List.set_cons_zero, List.set_cons_succ]; refine RS_take (i := 2) rfl (by decide +kernel) (fun _ _ _ h => h) (by first | (intro x hx; (repeat (first | exact hx | apply mS)); done) | ((repeat (refine List.forall_mem_cons.2 ⟨(by (repeat (first | assumption | (with_reducible exact mZ) | apply mS)); first | done | fail), ?_⟩)); intro x hx; first | (cases hx; done) | ((repeat (first | exact hx | apply mS)); done))) (stab_pure (by rfl) (fun w => (by go_simp; try with_reducible rfl))) ?_; simp only [Act.put, List.setIfInBounds_toArray, List.set_cons_zero, List.set_cons_succ]; refine RS_take (i := 3) rfl (by decide +kernel) (fun _ _ _ h => h) (by first | (intro x hx; (repeat (first | exact hx | apply mS)); done) | ((repeat (refine List.forall_mem_cons.2 ⟨(by (repeat (first | assumption | (with_reducible exact mZ) | apply mS)); first | done | fail), ?_⟩)); intro x hx; first | (cases hx; done) | ((repeat (first | exact hx | apply mS)); done))) (stab_read (by rfl) (fun L w hL hM => (ex_load1 (v := .slice (some ⟨a.g, 0, none⟩) D.sure.length D.sure.length) hM rfl rfl (hL _ (by (repeat (first | assumption | (with_reducible exact mZ) | apply mS)); first | done | fail)) rfl (by decide +kernel)))) ?_; simp only [Act.put, List.setIfInBounds_toArray, List.set_cons_zero, List.set_cons_succ]; refine RS_take (i := 4) rfl (by decide +kernel) (fun _ _ _ h => h) (by first | (intro x hx; (repeat (first | exact hx | apply mS)); done) | ((repeat (refine List.forall_mem_cons.2 ⟨(by (repeat (first | assumption | (with_reducible exact mZ) | apply mS)); first | done | fail), ?_⟩)); intro x hx; first | (cases hx; done) | ((repeat (first | exact hx | apply mS)); done))) (stab_pure (by rfl) (fun w => (by go_simp; try with_reducible rfl))) ?_; simp only [Act.put, List.setIfInBounds_toArray, List.set_cons_zero, List.set_cons_succ]; refine RS_take (i := 5) rfl (by decide +kernel) (fun _ _ _ h => h) (by first | (intro x hx; (repeat (first | exact hx | apply mS)); done) | ((repeat (refine List.forall_mem_cons.2 ⟨(by (repeat (first | assumption | (with_reducible exact mZ) | apply mS)); first | done | fail), ?_⟩)); intro x hx; first | (cases hx; done) | ((repeat (first | exact hx | apply mS)); done))) (stab_pure (by rfl) (fun w => (by go_simp; try with_reducible rfl))) ?_; simp only [Act.put, List.setIfInBounds_toArray, List.set_cons_zero, List.set_cons_succ]; refine RS_take (i := 6) rfl (by decide +kernel) (fun _ _ _ h => h) (by first | (intro x hx; (repeat (first | exact hx | apply mS)); done) | ((repeat (refine List.forall_mem_cons.2 ⟨(by (repeat (first | assumption | (with_reducible exact mZ) | apply mS)); first | done | fail), ?_⟩)); intro x hx; first | (cases hx; done) | ((repeat (first | exact hx | apply mS)); done))) (stab_pure (by rfl) (fun w => (by go_simp; try with_reducible rfl))) ?_; simp only [Act.put, List.setIfInBounds_toArray, List.set_cons_zero, List.set_cons_succ]; refine RS_take (i := 7) rfl (by decide +kernel) (fun _ _ _ h => h) (by first | (intro x hx; (repeat (first | exact hx | apply mS)); done) | ((repeat (refine List.forall_mem_cons.2 ⟨(by (repeat (first | assumption | (with_reducible exact mZ) | apply mS)); first | done | fail), ?_⟩)); intro x hx; first | (cases hx; done) | ((repeat (first | exact hx | apply mS)); done))) (stab_read (by rfl) (fun L w hL hM => (ex_slice_arr rfl Try.underlying97 (by kernel_rfl) rfl (by decide) rfl HN64.out))) ?_; simp only [Act.put, List.setIfInBounds_toArray, List.set_cons_zero, List.set_cons_succ]; refine RS_take (i := 8) rfl (by decide +kernel) (fun _ _ _ h => h) (by first | (intro x hx; (repeat (first | exact hx | apply mS)); done) | ((repeat (refine List.forall_mem_cons.2 ⟨(by (repeat (first | assumption | (with_reducible exact mZ) | apply mS)); first | done | fail), ?_⟩)); intro x hx; first | (cases hx; done) | ((repeat (first | exact hx | apply mS)); done))) (stab_pure (by rfl) (fun w => (by go_simp; try with_reducible rfl))) ?_; simp only [Act.put, List.setIfInBounds_toArray, List.set_cons_zero, List.set_cons_succ]; refine RS_take (i := 9) rfl (by decide +kernel) (fun _ _ _ h => h) (by first | (intro x hx; (repeat (first | exact hx | apply mS)); done) | ((repeat (refine List.forall_mem_cons.2 ⟨(by (repeat (first | assumption | (with_reducible exact mZ) | apply mS)); first | done | fail), ?_⟩)); intro x hx; first | (cases hx; done) | ((repeat (first | exact hx | apply mS)); done))) (stab_read (by rfl) (fun L w hL hM => (ex_slice_arr rfl Try.underlying97 (by kernel_rfl) rfl (by decide) rfl HN64.out))) ?_; simp only [Act.put, List.setIfInBounds_toArray, List.set_cons_zero, List.set_cons_succ]; refine RS_one (i := 10) (by decide +kernel) rfl (by rfl) (.inl (by first | (intro x hx; (repeat (first | exact hx | apply mS)); done) | ((repeat (refine List.forall_mem_cons.2 ⟨(by (repeat (first | assumption | (with_reducible exact mZ) | apply mS)); first | done | fail), ?_⟩)); intro x hx; first | (cases hx; done) | ((repeat (first | exact hx | apply mS)); done)))) (fun w K hM0 hK => ?_); refine ws_copy_sec hM0 rfl 5 Try.underlying84 (by kernel_rfl) i n rfl rfl (by (repeat (first | assumption | (with_reducible exact mZ) | apply mS)); first | done | fail) HS64.out HIS.out HNL.out HN64.out (by (repeat (first | (with_reducible exact Take.head) | apply Take.tail)); first | done | fail) (fun w hM => hK _ _ _ hM ?_); clear hM hM0 hK K; simp only [Act.put, List.setIfInBounds_toArray, List.set_cons_zero, List.set_cons_succ]; refine RS_done (by decide +kernel) (.inr (by decide +kernel)) (fun w hM => ?_))
        go_wp2
        go_roundw
        case rel => exact ⟨k + 1, by omega, by go_num, by rw [HNX.out]; exact hM.sel (by repeat (first | (with_reducible exact Sel.refl) | (with_reducible exact Take.head) | (with_reducible apply Take.tail) | (with_reducible apply Sel.cons) | (with_reducible apply Sel.drop)))⟩
        case measure => simp [intOf]; omega
      · have hz : n = 0 := by
          rw [hn]
          unfold chN
          rw [List.getElem?_eq_none (by rw [HCL.out]; omega)]
        subst hz
        have hkcI : decide ((k : Int) < (cn : Int)) = false := by simp; omega
        clear hn
        go_wp2_with (first | (first | ((with_reducible refine at_load' ?_); (refine BigFrame.wpList_want (by rfl) fun K hK => ws_rowload rfl rfl (by first | (apply Star.row hM; (repeat (first | assumption | (with_reducible exact mZ) | apply mS)); done) | (apply Star.own hM; (repeat (first | assumption | (with_reducible exact mZ) | apply mS)); done) | (apply Star.arr hM; (focus ((repeat (first | assumption | (with_reducible exact mZ) | apply mS)); done)); assumption)) (by assumption) (by kernel_rfl) (hK _ _ ?_); clear hK K)) | fail) | (first | ((with_reducible refine at_load' ?_); (refine BigFrame.wpList_want (by rfl) fun K hK => ws_load1 hM rfl rfl (by (repeat (first | assumption | (with_reducible exact mZ) | apply mS)); first | done | fail) (by first | rfl | assumption) (by decide +kernel) (hK _ _ ?_); clear hK K)) | fail) | (first | ((with_reducible refine at_lookup' ?_); (refine BigFrame.wpList_want (by rfl) fun K hK => ws_of_ex (ex_hit1 (key := iv64 i) hM rfl Try.underlying93 rfl rfl (by (repeat (first | assumption | (with_reducible exact mZ) | apply mS)); first | done | fail) keyed_i HK.out HHIT.out) (hK _ _ ?_); clear hK K)) | fail) | (first | ((with_reducible refine at_alloc' ?_); (have hM0 := hM; clear hM; refine BigFrame.wpList_want (by rfl) fun K hK => ws_alloc hM0 (t := 97) rfl (bvs zs64).toArray info_blkz (fun g7 w hM => hK _ _ ?_); clear hM0 hK K)) | fail) | (first | ((with_reducible refine at_store' ?_); (have hM0 := hM; clear hM; refine BigFrame.wpList_want (by rfl) fun K hK => ws_store hM0 rfl rfl rfl (by (repeat (first | (with_reducible exact Take.head) | apply Take.tail)); first | done | fail) (n := 64) (by simp [bvs_len, HNL.out]) (by rfl) (by kernel_rfl) (by simpa using bvs_oneCell _) (fun w hM => hK _ _ ?_); clear hM0 hK K)) | fail))
        (refine region_RS ([dE a D.sure.length, cellsE g7 97 (bvs (D.nw i)).toArray]) [10] (by kernel_rfl) hM ?_; clear hM; change RS _ _ _ _ _ _ 11 (Array.replicate 11 false) _ _; refine RS_take (i := 0) rfl (by decide +kernel) (fun _ _ _ h => h) (by first | (intro x hx; (repeat (first | exact hx | apply mS)); done) | ((repeat (refine List.forall_mem_cons.2 ⟨(by (repeat (first | assumption | (with_reducible exact mZ) | apply mS)); first | done | fail), ?_⟩)); intro x hx; first | (cases hx; done) | ((repeat (first | exact hx | apply mS)); done))) (stab_pure (by rfl) (fun w => (by go_simp; try with_reducible rfl))) ?_; simp only [Act.put, List.setIfInBounds_toArray, List.set_cons_zero, List.set_cons_succ]; refine RS_take (i := 1) rfl (by decide +kernel) (fun _ _ _ h => h) (by first | (intro x hx; (repeat (first | exact hx | apply mS)); done) | ((repeat (refine List.forall_mem_cons.2 ⟨(by (repeat (first | assumption | (with_reducible exact mZ) | apply mS)); first | done | fail), ?_⟩)); intro x hx; first | (cases hx; done) | ((repeat (first | exact hx | apply mS)); done))) (stab_pure (by rfl) (fun w => (by go_simp; try with_reducible rfl))) ?_; simp only [Act.put, List.setIfInBounds_toArray, List.set_cons_zero, List.set_cons_succ]; refine RS_take (i := 2) rfl (by decide +kernel) (fun _ _ _ h => h) (by first | (intro x hx; (repeat (first | exact hx | apply mS)); done) | ((repeat (refine List.forall_mem_cons.2 ⟨(by (repeat (first | assumption | (with_reducible exact mZ) | apply mS)); first | done | fail), ?_⟩)); intro x hx; first | (cases hx; done) | ((repeat (first | exact hx | apply mS)); done))) (stab_pure (by rfl) (fun w => (by go_simp; try with_reducible rfl))) ?_; simp only [Act.put, List.setIfInBounds_toArray, List.set_cons_zero, List.set_cons_succ]; refine RS_take (i := 3) rfl (by decide +kernel) (fun _ _ _ h => h) (by first | (intro x hx; (repeat (first | exact hx | apply mS)); done) | ((repeat (refine List.forall_mem_cons.2 ⟨(by (repeat (first | assumption | (with_reducible exact mZ) | apply mS)); first | done | fail), ?_⟩)); intro x hx; first | (cases hx; done) | ((repeat (first | exact hx | apply mS)); done))) (stab_read (by rfl) (fun L w hL hM => (ex_load1 (v := .slice (some ⟨a.g, 0, none⟩) D.sure.length D.sure.length) hM rfl rfl (hL _ (by (repeat (first | assumption | (with_reducible exact mZ) | apply mS)); first | done | fail)) rfl (by decide +kernel)))) ?_; simp only [Act.put, List.setIfInBounds_toArray, List.set_cons_zero, List.set_cons_succ]; refine RS_take (i := 4) rfl (by decide +kernel) (fun _ _ _ h => h) (by first | (intro x hx; (repeat (first | exact hx | apply mS)); done) | ((repeat (refine List.forall_mem_cons.2 ⟨(by (repeat (first | assumption | (with_reducible exact mZ) | apply mS)); first | done | fail), ?_⟩)); intro x hx; first | (cases hx; done) | ((repeat (first | exact hx | apply mS)); done))) (stab_pure (by rfl) (fun w => (by go_simp; try with_reducible rfl))) ?_; simp only [Act.put, List.setIfInBounds_toArray, List.set_cons_zero, List.set_cons_succ]; refine RS_take (i := 5) rfl (by decide +kernel) (fun _ _ _ h => h) (by first | (intro x hx; (repeat (first | exact hx | apply mS)); done) | ((repeat (refine List.forall_mem_cons.2 ⟨(by (repeat (first | assumption | (with_reducible exact mZ) | apply mS)); first | done | fail), ?_⟩)); intro x hx; first | (cases hx; done) | ((repeat (first | exact hx | apply mS)); done))) (stab_pure (by rfl) (fun w => (by go_simp; try with_reducible rfl))) ?_; simp only [Act.put, List.setIfInBounds_toArray, List.set_cons_zero, List.set_cons_succ]; refine RS_take (i := 6) rfl (by decide +kernel) (fun _ _ _ h => h) (by first | (intro x hx; (repeat (first | exact hx | apply mS)); done) | ((repeat (refine List.forall_mem_cons.2 ⟨(by (repeat (first | assumption | (with_reducible exact mZ) | apply mS)); first | done | fail), ?_⟩)); intro x hx; first | (cases hx; done) | ((repeat (first | exact hx | apply mS)); done))) (stab_pure (by rfl) (fun w => (by go_simp; try with_reducible rfl))) ?_; simp only [Act.put, List.setIfInBounds_toArray, List.set_cons_zero, List.set_cons_succ]; refine RS_take (i := 7) rfl (by decide +kernel) (fun _ _ _ h => h) (by first | (intro x hx; (repeat (first | exact hx | apply mS)); done) | ((repeat (refine List.forall_mem_cons.2 ⟨(by (repeat (first | assumption | (with_reducible exact mZ) | apply mS)); first | done | fail), ?_⟩)); intro x hx; first | (cases hx; done) | ((repeat (first | exact hx | apply mS)); done))) (stab_pure (by rfl) (fun w => (by go_simp; try with_reducible rfl))) ?_; simp only [Act.put, List.setIfInBounds_toArray, List.set_cons_zero, List.set_cons_succ]; refine RS_take (i := 8) rfl (by decide +kernel) (fun _ _ _ h => h) (by first | (intro x hx; (repeat (first | exact hx | apply mS)); done) | ((repeat (refine List.forall_mem_cons.2 ⟨(by (repeat (first | assumption | (with_reducible exact mZ) | apply mS)); first | done | fail), ?_⟩)); intro x hx; first | (cases hx; done) | ((repeat (first | exact hx | apply mS)); done))) (stab_pure (by rfl) (fun w => (by go_simp; try with_reducible rfl))) ?_; simp only [Act.put, List.setIfInBounds_toArray, List.set_cons_zero, List.set_cons_succ]; refine RS_take (i := 9) rfl (by decide +kernel) (fun _ _ _ h => h) (by first | (intro x hx; (repeat (first | exact hx | apply mS)); done) | ((repeat (refine List.forall_mem_cons.2 ⟨(by (repeat (first | assumption | (with_reducible exact mZ) | apply mS)); first | done | fail), ?_⟩)); intro x hx; first | (cases hx; done) | ((repeat (first | exact hx | apply mS)); done))) (stab_pure (by rfl) (fun w => (by go_simp; try with_reducible rfl))) ?_; simp only [Act.put, List.setIfInBounds_toArray, List.set_cons_zero, List.set_cons_succ]; refine RS_one (i := 10) (by decide +kernel) rfl (by rfl) (.inl (by first | (intro x hx; (repeat (first | exact hx | apply mS)); done) | ((repeat (refine List.forall_mem_cons.2 ⟨(by (repeat (first | assumption | (with_reducible exact mZ) | apply mS)); first | done | fail), ?_⟩)); intro x hx; first | (cases hx; done) | ((repeat (first | exact hx | apply mS)); done)))) (fun w K hM0 hK => ?_); refine ws_copy_sec hM0 rfl 5 Try.underlying84 (by kernel_rfl) i 0 rfl rfl (by (repeat (first | assumption | (with_reducible exact mZ) | apply mS)); first | done | fail) HS64.out HIS.out HNL.out HN64.out (by (repeat (first | (with_reducible exact Take.head) | apply Take.tail)); first | done | fail) (fun w hM => hK _ _ _ hM ?_); clear hM hM0 hK K; simp only [Act.put, List.setIfInBounds_toArray, List.set_cons_zero, List.set_cons_succ]; refine RS_done (by decide +kernel) (.inr (by decide +kernel)) (fun w hM => ?_))
        go_wp2
        go_roundw
        case rel => exact ⟨k + 1, by omega, by go_num, by rw [HNX.out]; exact hM.sel (by repeat (first | (with_reducible exact Sel.refl) | (with_reducible exact Take.head) | (with_reducible apply Take.tail) | (with_reducible apply Sel.cons) | (with_reducible apply Sel.drop)))⟩
        case measure => simp [intOf]; omega
    · obtain rfl : k = N := by omega
      have HALL : Hid ((crL D ch).take k = crL D ch) := List.take_of_length_le (by rw [crL_len, HN.out]; omega)
      rw [HALL.out] at hM
      go_wp2_with (first | (first | ((with_reducible refine at_load' ?_); (refine BigFrame.wpList_want (by rfl) fun K hK => ws_load1 hM rfl rfl (by (repeat (first | assumption | (with_reducible exact mZ) | apply mS)); first | done | fail) (by first | rfl | assumption) (by decide +kernel) (hK _ _ ?_); clear hK K)) | fail) | (first | ((with_reducible refine at_call' ?_); (have hM0 := hM; clear hM; refine BigFrame.wpList_want (by rfl) fun K hK => ws_clear_map hM0 rfl Try.underlying93 rfl (by (repeat (first | (with_reducible exact Take.head) | apply Take.tail)); first | done | fail) (fun w hM => hK _ _ ?_); clear hM0 hK K)) | fail) | (go_at_call 52; have hM0 := hM; clear hM; (first | (with_reducible refine (clear_f D.armed D.left _ (hM0.take (x := fE a D.armed D.left) (by (repeat (first | (with_reducible exact Take.head) | apply Take.tail)); first | done | fail))).mono ?_) | fail); clear hM0; rintro _ w ⟨rfl, hM⟩))
      go_end0
      refine ⟨rfl, Star.djoin (D := crD D ch) ?_⟩
      have e1 : lmv (crD D ch) = [] := calm_lmv D _
      rw [e1]
      show Star (dE a (upd D.sure (crL D ch)).length :: fE a false D.left :: sE a (upd D.sure (crL D ch)) :: mE a [] :: F) _
      rw [upd_len]
      exact hM.sel (by repeat (first | (with_reducible exact Sel.refl) | (with_reducible exact Take.head) | (with_reducible apply Take.tail) | (with_reducible apply Sel.cons) | (with_reducible apply Sel.drop)))
end
end Go.Proofs.Ytnckgkgilnmocaa
set_option linter.unusedSimpArgs false
set_option linter.unusedVariables false
namespace Go.Proofs.Ytnckgkgilnmocaa
open Go.RowKit
attribute [local go_sem] extract_mid extract_drop bget bsize wrap64_u8 i64_u8 u64_u8 bappend
/-- An empty disk. -/
def newD (N : Nat) : Dsk := ⟨List.replicate N zs64, List.replicate N zs64, List.replicate N false, false, 0⟩
theorem newD_len (N : Nat) : (newD N).sure.length = N := by simp [newD]
theorem newD_ok {N : Nat} (h : N ≤ 65536) : (newD N).ok where
  ln := rfl
  ll := by simp [newD]
  s64 b hb := by rw [(List.mem_replicate.1 hb).2]; exact zs64_len
  n64 b hb := by rw [(List.mem_replicate.1 hb).2]; exact zs64_len
  same _ _ _ := rfl
  size := by rw [newD_len]; exact h
  i64a := by show (-9223372036854775808 : Int) ≤ 0; decide
  i64b := by show (0 : Int) ≤ 9223372036854775807; decide
  arm h := by cases h
theorem newD_keys (N : Nat) : (newD N).keys = [] := by
  refine List.filter_eq_nil_iff.2 fun i _ => ?_
  show ¬ ((List.replicate N false).getD i false = true)
  rw [getD_rep]
  simp
theorem newD_lmv (N : Nat) : lmv (newD N) = [] := by unfold lmv; rw [newD_keys]; rfl
theorem flat_rep (N : Nat) : (List.replicate N zs64).flatten = List.replicate (N * 64) 0 := by
  unfold zs64
  rw [List.flatten_replicate_replicate]
section
variable {P : Program} {w : World} {ops : Array Oper} {o : Oper} {a : Act} {Q : Exit → Act → World → Prop} {L R : List SProp} {K : Act → World → Prop}
/-- make([]T, n), T some cells that are all alike. -/
theorem ws_make_rows (hM : Star L w) {t : TypeId} {x y : Operand} (ho : o.op = .makeSlice t x y) (e : TypeId) (z : Value) (size bytes : Nat) (u : Value) (ht : P.underlying t = some (.slice e)) (hi : (P.info? e).map (fun i => (i.zero, i.size, i.bytes)) = some (some z, size, bytes)) (hz : z.cells = (List.replicate size u).toArray) (hz0 : 0 < size) (hby : bytes ≤ 100)
    {n : Nat} (hx : a.eval x = .int .i64 (n : Int)) (hy : a.eval y = .int .i64 (n : Int)) (hsm : n ≤ 1000000000)
    (h : ∀ g w1, Star (cellsE g e (List.replicate (n * size) u).toArray :: L) w1 → K (a.put o.dst (.slice (some ⟨g, 0, none⟩) n n)) w1) : Oper.wp P o a w K Q := by
  obtain ⟨i, hi0, hz1, hsize, hb1⟩ := info_parts hi
  have hb : (i.bytes : Int) * (n : Int) ≤ 281474976710656 := by
    have h1 : i.bytes * n ≤ 100 * 1000000000 := Nat.mul_le_mul (by omega) hsm
    have : ((i.bytes * n : Nat) : Int) ≤ 281474976710656 := by omega
    rwa [Int.natCast_mul] at this
  have hr := run_make (P := P) w t e i z ht hi0 hz1 .i64 .i64 n n (by omega) (by omega) hb (by omega)
  simp only [Int.toNat_natCast] at hr
  have hc : madeCells z.cells (n * i.size) = (List.replicate (n * size) u).toArray := by
    rw [hz, hsize]
    apply Array.ext
    · simp [madeCells]
    · intro j h1 h2
      have : j % size < size := Nat.mod_lt _ hz0
      simp [madeCells, this]
  rw [hc] at hr
  unfold Oper.wp
  simp only [execOp, ho, hx, hy, hr, Sem.run_bind, Sem.run_pure, Result.andThen_ok]
  exact h _ _ (hM.new_ ((Ch.refl _ _).alloc _) (Blk.new w e _) fun k hk => by rw [hk]; exact Nat.le_refl _)
end
theorem info_blk3 : (Try.prog.info? 97).map (fun i => (i.zero, i.size, i.bytes)) = some (some (.agg (List.replicate 64 (bv 0)).toArray), 64, 64) := by kernel_rfl
section
variable {F : List SProp}
set_option maxRecDepth 100000 in
set_option maxHeartbeats 2000000 in
theorem new_d {n : Int} {N : Nat} (hn : max 0 (min n 65536) = (N : Int)) (w : World) (hM : Star F w) :
    Calls Try.prog 19 #[.int .i64 n] w fun r w' => ∃ a : DA, r = .returned (dptr a) ∧ Star (diskE a (newD N) :: F) w' := by
  have hN : N ≤ 65536 := by omega
  have hn2 : (if (0 : Int) < (if 65536 < n then 65536 else n) then (if 65536 < n then 65536 else n) else 0) = (N : Int) := by split <;> split at * <;> omega
  go_enter Try.func19, Try.ntmps19
  go_wp2_with (first | (refine BigFrame.wpList_want (by rfl) fun K hK => ws_build rfl (.agg #[.bool false, .int .i64 0]) (by kernel_rfl) (hK _ _ ?_); clear hK K) | (first | ((with_reducible refine at_box' ?_); (have hM0 := hM; clear hM; refine BigFrame.wpList_want (by rfl) fun K hK => ws_box hM0 rfl rfl (cs := #[.bool false, .int .i64 0]) rfl (fun f w hM => hK _ _ ?_); clear hM0 hK K)) | fail) | ((with_reducible refine at_make' ?_); have hM0 := hM; clear hM; refine BigFrame.wpList_want (by rfl) fun K hK => ws_make_rows (n := N) hM0 rfl 97 _ 64 64 (bv 0) Try.underlying92 info_blk3 rfl (by decide) (by decide) rfl rfl (by omega) (fun g w hM => hK _ _ ?_); clear hM0 hK K) | (first | ((with_reducible refine at_makemap' ?_); (have hM0 := hM; clear hM; refine BigFrame.wpList_want (by rfl) fun K hK => ws_makemap hM0 rfl 3 (fun m w hM => hK _ _ ?_); clear hM0 hK K)) | fail) | (first | ((with_reducible refine at_box' ?_); (have hM0 := hM; clear hM; refine BigFrame.wpList_want (by rfl) fun K hK => ws_box hM0 rfl rfl (cs := #[.pointer (some ⟨f, 0, none⟩), .slice (some ⟨g, 0, none⟩) N N, .map (some m)]) rfl (fun d w hM => hK _ _ ?_); clear hM0 hK K)) | fail))
  go_ret
  refine ⟨⟨d, f, m, g⟩, rfl, Star.djoin (D := newD N) ?_⟩
  rw [newD_lmv, newD_len]
  have e1 : (List.replicate (N * 64) (bv 0)) = bvs (newD N).sure.flatten := by
    show _ = bvs (List.replicate N zs64).flatten
    rw [flat_rep]
    simp [bvs]
  rw [e1] at hM
  exact (hM.sel (by repeat (first | (with_reducible exact Sel.refl) | (with_reducible exact Take.head) | (with_reducible apply Take.tail) | (with_reducible apply Sel.cons) | (with_reducible apply Sel.drop))) : Star (cellsE d 95 #[.pointer (some ⟨f, 0, none⟩), .slice (some ⟨g, 0, none⟩) N N, .map (some m)] :: cellsE f 106 #[.bool false, .int .i64 0] :: cellsE g 97 (bvs (newD N).sure.flatten).toArray :: mapE Try.prog 3 m [] :: F) _)
end
end Go.Proofs.Ytnckgkgilnmocaa
set_option linter.unusedSimpArgs false
set_option linter.unusedVariables false
namespace Go.Proofs.Ytnckgkgilnmocaa
open Go.RowKit
attribute [local go_sem] extract_mid extract_drop bget bsize wrap64_u8 i64_u8 u64_u8 bappend
theorem wrD_nw {D : Dsk} (h : D.ok) (at_ : Nat) (ts : List (List UInt8)) (k : Nat) (hk : at_ + k ≤ D.sure.length) (i : Nat) :
    (wrD D at_ ts k).nw i = (if at_ ≤ i ∧ i < at_ + k then pad64 (ts.getD (i - at_) []) else D.nw i) ∧ (wrD D at_ ts k).l i = (decide (at_ ≤ i ∧ i < at_ + k) || D.l i) := by
  induction k with
  | zero =>
    have h1 : ¬ (at_ ≤ i ∧ i < at_ + 0) := by omega
    rw [if_neg h1, decide_eq_false h1]
    exact ⟨rfl, rfl⟩
  | succ k ih =>
    have h2 := wrD_ok h at_ ts k (by omega)
    have h3 : at_ + k < (wrD D at_ ts k).sure.length := by rw [(wrD_sure D at_ ts k).1]; omega
    obtain ⟨i1, i2⟩ := ih (by omega)
    rw [wrD_succ, put_nw h2 h3, put_l h2 h3, i1, i2]
    by_cases e : i = at_ + k
    · subst e
      rw [if_pos rfl, if_pos rfl, if_pos (by omega), decide_eq_true (by omega : at_ ≤ at_ + k ∧ at_ + k < at_ + (k + 1)), Nat.add_sub_cancel_left]
      exact ⟨rfl, rfl⟩
    · rw [if_neg e, if_neg e]
      have h4 : (at_ ≤ i ∧ i < at_ + (k + 1)) ↔ (at_ ≤ i ∧ i < at_ + k) := by omega
      refine ⟨?_, ?_⟩ <;> simp only [h4]
structure WPost (D D' : Dsk) (at_ : Nat) (ts : List (List UInt8)) : Prop where
  ok : D'.ok
  sure : D'.sure = D.sure
  armed : D'.armed = D.armed
  nw : ∀ i, D'.nw i = if at_ ≤ i ∧ i < at_ + ts.length then pad64 (ts.getD (i - at_) []) else D.nw i
  l : ∀ i, D'.l i = (decide (at_ ≤ i ∧ i < at_ + ts.length) || D.l i)
structure SPost (D D' : Dsk) : Prop where
  ok : D'.ok
  len : D'.sure.length = D.sure.length
  armed : D'.armed = D.armed
  nw : ∀ i, D'.nw i = D.nw i
  su : ∀ i, D'.su i = D.nw i
  l : ∀ i, D'.l i = false
structure CPost (D D' : Dsk) (ch : List Int) : Prop where
  ok : D'.ok
  len : D'.sure.length = D.sure.length
  armed : D'.armed = false
  nw : ∀ i, D'.nw i = D'.su i
  l : ∀ i, D'.l i = false
  calm : ∀ i, D.l i = false → i < D.sure.length → D'.su i = D.su i
  torn : ∀ i j, D.keys[j]? = some i → D'.su i = crB D ch i j
theorem crD_post {D : Dsk} (h : D.ok) (ch : List Int) : CPost D (crD D ch) ch where
  ok := crD_ok h ch
  len := upd_len _ _
  armed := rfl
  nw _ := rfl
  l i := getD_rep _ i
  calm i hl hi := by
    have hnd : ((crL D ch).map (·.1)).Nodup := by rw [crL_fst]; exact keys_nodup D
    have h2 := (upd_get (S := D.sure) hnd i).2 fun b hb => by
      have h3 : i ∈ D.keys := by rw [← crL_fst D ch]; exact List.mem_map.2 ⟨_, hb, rfl⟩
      have := ((mem_keys D i).1 h3).2
      rw [hl] at this
      cases this
    show (upd D.sure (crL D ch)).getD i [] = D.sure.getD i []
    rw [List.getD_eq_getElem?_getD, h2, List.getD_eq_getElem?_getD]
  torn i j hj := by
    have hnd : ((crL D ch).map (·.1)).Nodup := by rw [crL_fst]; exact keys_nodup D
    have h2 := (upd_get (S := D.sure) hnd i).1 _ (List.mem_of_getElem? (crL_get (ch := ch) hj)) ((mem_keys D i).1 (List.mem_of_getElem? hj)).1
    show (upd D.sure (crL D ch)).getD i [] = _
    rw [List.getD_eq_getElem?_getD, h2]
    rfl
theorem rdD_one (D : Dsk) (at_ : Nat) : rdD D at_ 1 = D.nw at_ := by simp [rdD]
theorem rdD_len {D : Dsk} (h : D.ok) (at_ n : Nat) (hi : at_ + n ≤ D.sure.length) : (rdD D at_ n).length = 64 * n := by
  induction n with
  | zero => rfl
  | succ n ih => rw [rdD_succ, List.length_append, ih (by omega), nw_len h (by omega)]; omega
/-- A sector of what is read. -/
theorem rdD_at {D : Dsk} (h : D.ok) (at_ n i : Nat) (hi : at_ + n ≤ D.sure.length) (hin : i < n) : ((rdD D at_ n).drop (64 * i)).take 64 = D.nw (at_ + i) := by
  induction n with
  | zero => omega
  | succ n ih =>
    have hl := rdD_len h at_ n (by omega)
    rw [rdD_succ]
    by_cases e : i = n
    · subst e
      rw [List.drop_append, List.drop_of_length_le (by omega), List.nil_append, hl, Nat.sub_self, List.drop_zero, List.take_of_length_le (by rw [nw_len h (by omega)]; omega)]
    · rw [List.drop_append_of_le_length (by omega), List.take_append_of_le_length (by rw [List.length_drop]; omega)]
      exact ih (by omega) (by omega)
section
variable {F : List SProp} {a : DA} {D : Dsk}
theorem write_u {ts : List (List UInt8)} {A : Option Addr} {n c : Nat} {x : Int} (at_ : Nat) (hx : x = at_) (h : D.ok) (hi : at_ + n ≤ D.sure.length) (hb : anyBig ts = false) (hf : D.armed = false) (w : World) (hM : Star (diskE a D :: F) w) (hF : rowE 1 A n (svs ts) ∈ F) :
    Calls Try.prog 38 #[dptr a, .int .i64 x, .slice A n c] w fun r w' => ∃ D', Hid (WPost D D' at_ ts) ∧ r = .returned (.int .i64 0) ∧ Star (diskE a D' :: F) w' := by
  subst hx
  have hf2 : D.armed = true → D.left ≠ 0 := fun e => by rw [hf] at e; cases e
  have hl : ts.length = n := svs_row (hM.row (A := A) (n := n) (xs := svs ts) (List.mem_cons_of_mem _ hF))
  have hok := dec_ok h hf2
  refine (write_ok h at_ hi hb hf2 w hM hF).mono fun r w' ⟨e, hM⟩ => ⟨_, ⟨wrD_ok hok at_ ts n hi, (wrD_sure _ _ _ _).1, (wrD_sure _ _ _ _).2.1, fun i => ?_, fun i => ?_⟩, e, hM⟩
  · rw [hl]; exact (wrD_nw hok at_ ts n hi i).1
  · rw [hl]; exact (wrD_nw hok at_ ts n hi i).2
theorem sync_u (h : D.ok) (hf : D.armed = false) (w : World) (hM : Star (diskE a D :: F) w) :
    Calls Try.prog 13 #[dptr a] w fun r w' => ∃ D', Hid (SPost D D') ∧ r = .returned (.int .i64 0) ∧ Star (diskE a D' :: F) w' := by
  have hf2 : D.armed = true → D.left ≠ 0 := fun e => by rw [hf] at e; cases e
  refine (sync_ok h hf2 w hM).mono fun r w' ⟨e, hM⟩ => ⟨_, ⟨calm_ok (dec_ok h hf2) h.n64 h.ln, h.ln, rfl, fun i => rfl, fun i => rfl, fun i => getD_rep _ i⟩, e, hM⟩
theorem crash_u (h : D.ok) {ch : List Int} {CA : Option Addr} {cn cc : Nat} (hcn : cn ≤ 9223372036854775807) (hch : ∀ x ∈ ch, -9223372036854775808 ≤ x ∧ x ≤ 9223372036854775807) (w : World) (hM : Star (diskE a D :: F) w) (hF : rowE 1 CA cn (ivs ch) ∈ F) :
    Calls Try.prog 23 #[dptr a, .slice CA cn cc] w fun r w' => ∃ D', Hid (CPost D D' ch) ∧ r = .returned (.tuple #[]) ∧ Star (diskE a D' :: F) w' :=
  (crash_d h hcn hch w hM hF).mono fun r w' ⟨e, hM⟩ => ⟨_, crD_post h ch, e, hM⟩
/-- What a Read leaves. -/
structure RPost (D D' : Dsk) : Prop where
  ok : D'.ok
  sure : D'.sure = D.sure
  armed : D'.armed = D.armed
  nw : ∀ i, D'.nw i = D.nw i
  l : ∀ i, D'.l i = D.l i
theorem read_u {x y : Int} (at_ n : Nat) (hx : x = at_) (hy : y = n) (h : D.ok) (hi : at_ + n ≤ D.sure.length) (hf : D.armed = false) (w : World) (hM : Star (diskE a D :: F) w) :
    Calls Try.prog 42 #[dptr a, .int .i64 x, .int .i64 y] w fun r w' => ∃ D', Hid (RPost D D') ∧ r = .returned (.tuple #[.string ⟨(rdD D at_ n).toArray⟩, .int .i64 0]) ∧ Star (diskE a D' :: F) w' := by
  subst hx hy
  have hf2 : D.armed = true → D.left ≠ 0 := fun e => by rw [hf] at e; cases e
  exact (read_ok h at_ n hi hf2 w hM).mono fun r w' ⟨e, hM⟩ => ⟨_, ⟨dec_ok h hf2, rfl, rfl, fun i => rfl, fun i => rfl⟩, e, hM⟩
/-- An empty disk, by what holds of it. -/
structure NPost (D : Dsk) (N : Nat) : Prop where
  ok : D.ok
  len : D.sure.length = N
  armed : D.armed = false
  nw : ∀ i, i < N → D.nw i = zs64
  l : ∀ i, D.l i = false
theorem new_u {n : Int} {N : Nat} (hn : max 0 (min n 65536) = (N : Int)) (w : World) (hM : Star F w) :
    Calls Try.prog 19 #[.int .i64 n] w fun r w' => ∃ (a : DA) (D : Dsk), Hid (NPost D N) ∧ r = .returned (dptr a) ∧ Star (diskE a D :: F) w' :=
  (new_d hn w hM).mono fun r w' ⟨a, e, hM⟩ => ⟨a, newD N, ⟨newD_ok (by omega), newD_len N, rfl, fun i hi => by show (List.replicate N zs64).getD i [] = _; rw [List.getD_eq_getElem?_getD, List.getElem?_replicate, if_pos hi]; rfl, fun i => getD_rep _ i⟩, e, hM⟩
end
end Go.Proofs.Ytnckgkgilnmocaa
set_option linter.unusedSimpArgs false
set_option linter.unusedVariables false
namespace Go.Proofs.Ytnckgkgilnmocaa
open Go.RowKit
abbrev Rc := Nat × List UInt8
abbrev rcGood (r : Rc) : Prop := 1 ≤ r.1 ∧ r.1 ≤ 200 ∧ r.2.length ≤ 4096
def nlen (n : Nat) : Nat := (encNum n).length
theorem nlen_le (n : Nat) : nlen n ≤ 9 := encNum_len n
theorem kind_len {k : Nat} (h1 : 1 ≤ k) (h2 : k ≤ 200) : nlen k = 2 := by
  have h : ∀ k < 201, 1 ≤ k → nlen k = 2 := by decide +kernel
  exact h k (by omega) h1
theorem digF_len_lt (m f n : Nat) (h : n < 256 ^ m) : (digF f n).length ≤ m := by
  induction m generalizing f n with
  | zero => have : n = 0 := by simpa using h
            subst this; simp [digF_zero]
  | succ m ih =>
    cases f with
    | zero => simp [digF]
    | succ f =>
      by_cases h0 : n = 0
      · subst h0; simp [digF_zero]
      · rw [digF_pos f n h0, List.length_append]
        have := ih f (n / 256) (by rw [Nat.div_lt_iff_lt_mul (by omega)]; rw [Nat.pow_succ] at h; exact h)
        simp; omega
theorem nlen_small {n : Nat} (h : n ≤ 65535) : nlen n ≤ 3 := by
  have := digF_len_lt 2 8 n (by omega)
  simp only [nlen, encNum, dig, List.length_cons]; omega
/-- How many sectors a record takes. -/
def bcost (n : Nat) : Nat := (97 + nlen n + n) / 64
theorem bcost_pos (n : Nat) : 1 ≤ bcost n := by unfold bcost; omega
theorem bcost_le {n : Nat} (h : n ≤ 4096) : bcost n ≤ 66 := by have := nlen_le n; unfold bcost; omega
abbrev rcost (r : Rc) : Nat := bcost r.2.length
def rbody (r : Rc) : List UInt8 := encNum r.1 ++ encStr r.2
def rsum (p : List UInt8) (r : Rc) : List UInt8 := sha (p ++ rbody r)
theorem rsum_len (p : List UInt8) (r : Rc) : (rsum p r).length = 32 := sha_len _
def rtxt (p : List UInt8) (r : Rc) : List UInt8 := rsum p r ++ rbody r
theorem rbody_len {r : Rc} (h : rcGood r) : (rbody r).length = 2 + nlen r.2.length + r.2.length := by
  have := kind_len h.1 h.2.1
  unfold nlen at this
  simp only [rbody, encStr, List.length_append, this, nlen]; omega
theorem rtxt_len {r : Rc} (h : rcGood r) (p : List UInt8) : (rtxt p r).length = 34 + nlen r.2.length + r.2.length := by
  rw [rtxt, List.length_append, rsum_len, rbody_len h]; omega
theorem rcost_eq {r : Rc} (h : rcGood r) (p : List UInt8) : rcost r = ((rtxt p r).length + 63) / 64 := by
  rw [rtxt_len h]; unfold rcost bcost; congr 1; omega
def tot (l : List Rc) : Nat := (l.map rcost).sum
theorem tot_cons (r : Rc) (l : List Rc) : tot (r :: l) = rcost r + tot l := by simp [tot]
theorem tot_app (a b : List Rc) : tot (a ++ b) = tot a + tot b := by simp [tot]
def esum (p : List UInt8) (l : List Rc) : List UInt8 := l.foldl rsum p
theorem esum_len {p : List UInt8} (h : p.length = 32) (l : List Rc) : (esum p l).length = 32 := by
  induction l generalizing p with
  | nil => exact h
  | cons r l ih => exact ih (rsum_len p r)
theorem esum_app (p : List UInt8) (a b : List Rc) : esum p (a ++ b) = esum (esum p a) b := by simp [esum]
/-- A text, cut into sectors. -/
def spl (s : List UInt8) (n : Nat) : List (List UInt8) := (List.range n).map fun i => (s.drop (64 * i)).take 64
theorem spl_len (s : List UInt8) (n : Nat) : (spl s n).length = n := by simp [spl]
theorem spl_succ (s : List UInt8) (n : Nat) : spl s (n + 1) = spl s n ++ [(s.drop (64 * n)).take 64] := by simp [spl, List.range_succ]
theorem spl_get {s : List UInt8} {n i : Nat} (h : i < n) : (spl s n).getD i [] = (s.drop (64 * i)).take 64 := by
  rw [List.getD_eq_getElem?_getD]
  simp [spl, h]
theorem spl_small (s : List UInt8) (n : Nat) : anyBig (spl s n) = false := by
  unfold anyBig spl
  rw [List.any_eq_false]
  intro x hx
  obtain ⟨i, _, rfl⟩ := List.mem_map.1 hx
  simp
  omega
/-- What so many sectors hold. -/
def rd (f : Nat → List UInt8) (at_ n : Nat) : List UInt8 := (List.range n).flatMap fun j => f (at_ + j)
theorem rdD_rd (D : Dsk) (at_ n : Nat) : rdD D at_ n = rd D.nw at_ n := rfl
theorem rd_succ (f : Nat → List UInt8) (at_ n : Nat) : rd f at_ (n + 1) = rd f at_ n ++ f (at_ + n) := by
  unfold rd
  rw [List.range_succ, List.flatMap_append]
  simp
theorem rd_congr {f g : Nat → List UInt8} {at_ n : Nat} (h : ∀ i, at_ ≤ i → i < at_ + n → f i = g i) : rd f at_ n = rd g at_ n := by
  induction n with
  | zero => rfl
  | succ n ih => rw [rd_succ, rd_succ, ih fun i h1 h2 => h i h1 (by omega), h (at_ + n) (by omega) (by omega)]
theorem pad64_full {s : List UInt8} (h : s.length = 64) : pad64 s = s := by
  unfold pad64 over
  rw [List.take_of_length_le (by rw [zs64_len]; omega), List.drop_of_length_le (by rw [zs64_len]; omega), List.append_nil]
theorem pad64_short {s : List UInt8} (h : s.length ≤ 64) : pad64 s = s ++ List.replicate (64 - s.length) 0 := by
  unfold pad64 over zs64
  rw [List.take_of_length_le (by rw [List.length_replicate]; omega), List.drop_replicate]
theorem rd_spl {f : Nat → List UInt8} {at_ : Nat} {s : List UInt8} {n : Nat} (hn : n = (s.length + 63) / 64) (h0 : 1 ≤ s.length) (h : ∀ i, i < n → f (at_ + i) = pad64 ((spl s n).getD i [])) : ∃ z, rd f at_ n = s ++ z := by
  have h1 : ∀ k, k < n → rd f at_ k = s.take (64 * k) := by
    intro k
    induction k with
    | zero => intro _; rfl
    | succ k ih =>
      intro hk
      rw [rd_succ, ih (by omega), h k (by omega), spl_get (by omega), pad64_full (by rw [List.length_take, List.length_drop]; omega)]
      rw [show 64 * (k + 1) = 64 * k + 64 by omega, List.take_add]
  obtain ⟨m, rfl⟩ : ∃ m, n = m + 1 := ⟨n - 1, by omega⟩
  rw [rd_succ, h1 m (by omega), h m (by omega), spl_get (by omega), pad64_short (by rw [List.length_take]; omega), ← List.append_assoc, List.take_of_length_le (l := s.drop (64 * m)) (by rw [List.length_drop]; omega), List.take_append_drop]
  exact ⟨_, rfl⟩
/-- Records lie one behind the other. -/
def lies (f : Nat → List UInt8) : Nat → List UInt8 → List Rc → Prop
  | _, _, [] => True
  | at_, p, r :: l => (∃ z, rd f at_ (rcost r) = rtxt p r ++ z) ∧ lies f (at_ + rcost r) (rsum p r) l
theorem lies_congr {f g : Nat → List UInt8} {l : List Rc} : ∀ {at_ : Nat} {p : List UInt8}, (∀ i, at_ ≤ i → i < at_ + tot l → f i = g i) → lies f at_ p l → lies g at_ p l := by
  induction l with
  | nil => intro _ _ _ _; trivial
  | cons r l ih =>
    intro at_ p h ⟨⟨z, h1⟩, h2⟩
    rw [tot_cons] at h
    refine ⟨⟨z, ?_⟩, ih (fun i h3 h4 => h i (by omega) (by omega)) h2⟩
    rw [← h1]
    exact (rd_congr fun i h3 h4 => h i h3 (by omega)).symm
theorem lies_app {f : Nat → List UInt8} {a b : List Rc} : ∀ {at_ : Nat} {p : List UInt8}, lies f at_ p (a ++ b) ↔ lies f at_ p a ∧ lies f (at_ + tot a) (esum p a) b := by
  induction a with
  | nil => intro at_ p; simp [lies, tot, esum]
  | cons r a ih =>
    intro at_ p
    show _ ∧ lies f _ _ (a ++ b) ↔ _
    rw [ih, tot_cons, Nat.add_assoc]
    exact and_assoc.symm
/-- By the sector of a record: the sum of the one ahead. -/
def pms : Nat → List UInt8 → List Rc → List (Nat × List UInt8)
  | _, _, [] => []
  | at_, p, r :: l => (at_, p) :: pms (at_ + rcost r) (rsum p r) l
theorem pms_app (a b : List Rc) : ∀ (at_ : Nat) (p : List UInt8), pms at_ p (a ++ b) = pms at_ p a ++ pms (at_ + tot a) (esum p a) b := by
  induction a with
  | nil => intro at_ p; simp [pms, tot, esum]
  | cons r a ih => intro at_ p; simp only [List.cons_append, pms, ih, tot_cons, Nat.add_assoc]; rfl
theorem pms_lt {l : List Rc} : ∀ {at_ : Nat} {p : List UInt8}, ∀ x ∈ pms at_ p l, at_ ≤ x.1 ∧ x.1 < at_ + tot l := by
  induction l with
  | nil => intro _ _ x hx; cases hx
  | cons r l ih =>
    intro at_ p x hx
    have h1 := bcost_pos r.2.length
    rw [tot_cons]
    rcases List.mem_cons.1 hx with rfl | hx
    · exact ⟨Nat.le_refl _, by show at_ < _; unfold rcost; omega⟩
    · have := ih x hx
      unfold rcost at *; omega
/-- Where records lie. -/
def ats : Nat → List Rc → List (Rc × Nat)
  | _, [] => []
  | at_, r :: l => (r, at_) :: ats (at_ + rcost r) l
theorem ats_app (a b : List Rc) : ∀ (at_ : Nat), ats at_ (a ++ b) = ats at_ a ++ ats (at_ + tot a) b := by
  induction a with
  | nil => intro at_; simp [ats, tot]
  | cons r a ih => intro at_; simp only [List.cons_append, ats, ih, tot_cons, Nat.add_assoc]
theorem ats_fst (l : List Rc) : ∀ (at_ : Nat), (ats at_ l).map (·.1) = l := by
  induction l with
  | nil => intro _; rfl
  | cons r l ih => intro at_; simp [ats, ih]
/-- A turn's seed, and its head. -/
def seedT (t : Nat) : List UInt8 := sha ([116, 117, 114, 110] ++ encNum t)
def headT (t : Nat) : List UInt8 := sha ([104, 101, 97, 100] ++ encNum t) ++ encNum t
theorem seedT_len (t : Nat) : (seedT t).length = 32 := sha_len _
theorem headT_len (t : Nat) : (headT t).length ≤ 41 := by have := nlen_le t; unfold nlen at this; simp only [headT, List.length_append, sha_len]; omega
/-- The turn of a head: its number stands behind 32 bytes. -/
theorem headT_num (t : Nat) (z : List UInt8) (ht : t ≤ 1000000) : mInt (headT t ++ z |>.drop 32) 0 1125899906842624 = ((t : Int), z, 0) := by
  have h : (headT t ++ z).drop 32 = encNum t ++ z := by
    rw [headT, List.append_assoc, List.drop_append, List.drop_of_length_le (by rw [sha_len]; omega), sha_len]
    rfl
  rw [h]
  exact mInt_enc t z _ (by omega) (by omega)
/-- A record's numbers, in its first sector. -/
theorem rtxt_kind {r : Rc} (h : rcGood r) (p z : List UInt8) : (rtxt p r ++ z).drop 32 = encNum r.1 ++ (encNum r.2.length ++ (r.2 ++ z)) := by
  rw [rtxt, List.append_assoc, List.drop_append, List.drop_of_length_le (by rw [rsum_len]; omega), rsum_len]
  simp [rbody, encStr]
theorem take_app_le {α : Type} (a b : List α) {n : Nat} (h : a.length ≤ n) : (a ++ b).take n = a ++ b.take (n - a.length) := by
  rw [List.take_append, List.take_of_length_le h]
theorem first_nums {r : Rc} (h : rcGood r) (p z : List UInt8) (hz : 64 ≤ (rtxt p r ++ z).length) : ∃ u, mInt (((rtxt p r ++ z).take 64).drop 32) 0 200 = ((r.1 : Int), u, 0) ∧ ∃ v, mInt u 0 4096 = ((r.2.length : Int), v, 0) ∧ v.length = 30 - nlen r.2.length := by
  have h1 := kind_len h.1 h.2.1
  have h2 := nlen_small (n := r.2.length) (by omega)
  unfold nlen at h1 h2
  have e1 : ((rtxt p r ++ z).take 64).drop 32 = encNum r.1 ++ (encNum r.2.length ++ ((r.2 ++ z).take (30 - (encNum r.2.length).length))) := by
    rw [List.drop_take, rtxt_kind h, take_app_le _ _ (by omega), h1, take_app_le _ _ (by omega)]
  have hl : (rtxt p r ++ z).length = 34 + (encNum r.2.length).length + (r.2 ++ z).length := by
    rw [List.length_append, rtxt_len h, List.length_append]; unfold nlen; omega
  refine ⟨encNum r.2.length ++ ((r.2 ++ z).take (30 - (encNum r.2.length).length)), ?_, (r.2 ++ z).take (30 - (encNum r.2.length).length), ?_, ?_⟩
  · rw [e1]; exact mInt_enc _ _ _ (by omega) (by omega)
  · exact mInt_enc _ _ _ (by omega) (by omega)
  · rw [List.length_take, Nat.min_eq_left (by omega)]; rfl
theorem rtxt_data {r : Rc} (h : rcGood r) (p z : List UInt8) : ((rtxt p r ++ z).drop (34 + nlen r.2.length)).take r.2.length = r.2 := by
  have h1 := kind_len h.1 h.2.1
  unfold nlen at h1
  have e1 : (rtxt p r ++ z).drop (34 + nlen r.2.length) = r.2 ++ z := by
    rw [show 34 + nlen r.2.length = 32 + (2 + nlen r.2.length) by omega, ← List.drop_drop, rtxt_kind h, ← List.drop_drop, List.drop_append (l₁ := encNum r.1), List.drop_of_length_le (l := encNum r.1) (by omega), h1, Nat.sub_self, List.nil_append, List.drop_zero, List.drop_append, List.drop_of_length_le (l := encNum r.2.length) (by unfold nlen; omega)]
    unfold nlen
    rw [Nat.sub_self]
    rfl
  rw [e1, List.take_left']
  rfl
/-- An empty sector's number. -/
theorem zero_num : mInt (zs64.drop 32) 0 200 = (0, List.replicate 31 0, 0) ∧ mInt (List.replicate 31 (0 : UInt8)) 0 4096 = (0, List.replicate 30 0, 0) ∧ mInt (zs64.drop 32) 0 1125899906842624 = (0, List.replicate 31 0, 0) := by decide +kernel
end Go.Proofs.Ytnckgkgilnmocaa
set_option linter.unusedSimpArgs false
set_option linter.unusedVariables false
namespace Go.Proofs.Ytnckgkgilnmocaa
open Go.RowKit
attribute [local go_sem] extract_mid extract_drop bget bsize wrap64_u8 i64_u8 u64_u8 bappend
def slLen : Value → Nat
  | .slice _ n _ => n
  | _ => 0
theorem nums1 (t : Nat) : encNums [(t : Int)] = encNum t := by simp [encNums]
theorem nums2 (t : Nat) : encNums [1, (t : Int)] = encNum 1 ++ encNum t := by simp [encNums]; rfl
theorem Star.pull2b {L R1 R : List SProp} {x y : SProp} {w : World} (h : Star L w) (h1 : Take x L R1) (h2 : Take y R1 R) : Star (x :: y :: R) w := (h.take h1).perm (List.Perm.cons _ h2.perm)
section
variable {F L : List SProp}
theorem numsT {L : List SProp} (t : Nat) (ht : t ≤ 1000000) (g : Nat) (w : World) (hM : Star L w) (hx : rowE 1 (some ⟨g, 0, none⟩) 1 (ivs [(t : Int)]) ∈ L) : Calls Try.prog 49 #[.slice (some ⟨g, 0, none⟩) 1 1] w fun r w' => r = .returned (.string ⟨(encNum t).toArray⟩) ∧ Star L w' := by
  have := nums_star [(t : Int)] _ 1 1 (by intro x hx; rw [List.mem_singleton.1 hx]; omega) (by omega) w hM hx
  rwa [nums1] at this
theorem of2 {L : List SProp} (s u : List UInt8) (hs : s.length ≤ 1000000000) (hu : u.length ≤ 1000000000) (g : Nat) (w : World) (hM : Star L w) (hx : rowE 1 (some ⟨g, 0, none⟩) 2 (svs [s, u]) ∈ L) : Calls Try.prog 65 #[.slice (some ⟨g, 0, none⟩) 2 2] w fun r w' => r = .returned (.agg (bvs (sha (s ++ u))).toArray) ∧ Star L w' := by
  have := of_star [s, u] _ 2 2 (by simp [hs, hu]) (by omega) w hM hx
  rwa [show cat [s, u] = s ++ u by simp [cat]] at this
theorem str_star {L : List SProp} (l : List UInt8) (hl : l.length ≤ 1000000000) (w : World) (hM : Star L w) : Calls Try.prog 64 #[.string ⟨l.toArray⟩] w fun r w' => r = .returned (.string ⟨(encStr l).toArray⟩) ∧ Star L w' := star0 (encStr_any l (by omega) w) hM
set_option maxRecDepth 100000 in
theorem hasP (s t : List UInt8) (hs : s.length ≤ 1000000000) (ht : t.length ≤ s.length) (b : Bool) (hb : decide (s.take t.length = t) = b) (w : World) : Calls Try.prog 75 #[.string ⟨s.toArray⟩, .string ⟨t.toArray⟩] w fun r w' => r = .returned (.bool b) ∧ w = w' := by
  have H : Hid (∀ w, Calls Try.prog 94 #[.string ⟨s.toArray⟩, .string ⟨t.toArray⟩] w fun r w' => r = .returned (.bool b) ∧ w = w') := fun w => by
    have HB := Lib.hid hb
    clear hb
    go_enter Try.func94, Try.ntmps94
    go_wp2_with (first | ((with_reducible refine at_bin' (op := .eql) ?_); refine BigFrame.wpList_want (by rfl) fun K hK => ws_of_ex (ex_eqs rfl rfl rfl HB.out) (hK _ _ ?_); clear hK K))
    go_ret
    exact ⟨rfl, rfl⟩
  clear hb
  go_enter Try.func75, Try.ntmps75
  go_wp2_with (first | (go_at_call 94; refine (H.out _).mono ?_; rintro _ _ ⟨rfl, rfl⟩))
  go_ret
  exact ⟨rfl, rfl⟩
set_option maxRecDepth 100000 in
theorem sectors_b (n : Nat) (hn : n ≤ 1000000000) (w : World) : Calls Try.prog 48 #[.int .i64 n] w fun r w' => r = .returned (.int .i64 ((n + 63) / 64 : Nat)) ∧ w = w' := by
  go_enter Try.func48, Try.ntmps48
  go_wp2
  go_ret
  exact ⟨by go_num, rfl⟩
set_option maxRecDepth 100000 in
theorem cost_b (n : Nat) (hn : n ≤ 1000000) (w : World) (hM : Star L w) : Calls Try.prog 21 #[.int .i64 n] w fun r w' => r = .returned (.int .i64 (bcost n : Nat)) ∧ Star L w' := by
  have H1 : Hid (∀ (L : List SProp) (g : Nat) (w : World), Star L w → rowE 1 (some ⟨g, 0, none⟩) 2 (ivs [1, (n : Int)]) ∈ L → Calls Try.prog 49 #[.slice (some ⟨g, 0, none⟩) 2 2] w fun r w' => r = .returned (.string ⟨(encNums [1, (n : Int)]).toArray⟩) ∧ Star L w') := fun L g w hM hx => nums_star [1, (n : Int)] _ 2 2 (by intro x hx; simp at hx; omega) (by omega) w hM hx
  have hl : (encNums [1, (n : Int)]).length = 2 + nlen n := by rw [nums2, List.length_append]; rfl
  have hm : (if (n : Int) < 0 then (0 : Int) else n) = n := if_neg (by omega)
  have hm2 : max (n : Int) 0 = n := by omega
  have hq := nlen_le n
  have HQ : Hid (((32 + (2 + nlen n) + n + 63) / 64 : Nat) = bcost n) := by show _ = _; unfold bcost; congr 1; omega
  generalize nlen n = q at hl hq HQ
  generalize encNums [1, (n : Int)] = s at H1 hl
  go_enter Try.func21, Try.ntmps21
  go_wp2_with (first | (first | ((with_reducible refine at_slice' ?_); (have hM0 := hM; clear hM; refine BigFrame.wpList_want (by rfl) fun K hK => ws_slice_row hM0 (n := 2) rfl 3 1 (.int .i64 0) [iv 1, iv n] Try.underlying57 (by kernel_rfl) rfl (by simp [Value.cells, iv, sv, bv]) (by rfl) (by decide) (cs := ivs [1, (n : Int)]) (by rfl) (fun g6 w hM => hK _ _ ?_); clear hM0 hK K)) | fail) | (go_at_call 49; have hM0 := hM; clear hM; (first | (with_reducible refine (H1.out _ g6 _ hM0 (by (repeat (first | assumption | (with_reducible exact mZ) | apply mS)); first | done | fail)).mono ?_) | fail); clear hM0; rintro _ w ⟨rfl, hM⟩) | (go_at_call 48; refine (sectors_b (32 + (2 + q) + n) (by omega) _).mono ?_; rintro _ _ ⟨rfl, rfl⟩))
  go_ret
  exact ⟨by rw [← HQ.out]; go_num, hM.sel (by repeat (first | (with_reducible exact Sel.refl) | (with_reducible exact Take.head) | (with_reducible apply Take.tail) | (with_reducible apply Sel.cons) | (with_reducible apply Sel.drop)))⟩
set_option maxRecDepth 100000 in
theorem head_b (t : Nat) (ht : t ≤ 1000000) (w : World) (hM : Star L w) : Calls Try.prog 76 #[.int .i64 t] w fun r w' => r = .returned (.string ⟨(headT t).toArray⟩) ∧ Star L w' := by
  have hl := encNum_len t
  have HN : Hid (∀ (L : List SProp) (g : Nat) (w : World), Star L w → rowE 1 (some ⟨g, 0, none⟩) 1 (ivs [(t : Int)]) ∈ L → Calls Try.prog 49 #[.slice (some ⟨g, 0, none⟩) 1 1] w fun r w' => r = .returned (.string ⟨(encNum t).toArray⟩) ∧ Star L w') := fun L g w hM hx => numsT t ht g w hM hx
  have HO : Hid (∀ (L : List SProp) (g : Nat) (w : World), Star L w → rowE 1 (some ⟨g, 0, none⟩) 2 (svs [[104, 101, 97, 100], encNum t]) ∈ L → Calls Try.prog 65 #[.slice (some ⟨g, 0, none⟩) 2 2] w fun r w' => r = .returned (.agg (bvs (sha ([104, 101, 97, 100] ++ encNum t))).toArray) ∧ Star L w') := fun L g w hM hx => of2 _ _ (by simp) (by omega) g w hM hx
  have HR : Hid (sha ([104, 101, 97, 100] ++ encNum t) ++ encNum t = headT t) := rfl
  have hsl : (sha ([104, 101, 97, 100] ++ encNum t)).length = 32 := sha_len _
  generalize sha ([104, 101, 97, 100] ++ encNum t) = h at HO HR hsl
  generalize encNum t = s at HN HO HR hl
  have HSL := Lib.hid hsl
  go_enter Try.func76, Try.ntmps76
  go_wp2_with (first | (first | ((with_reducible refine at_slice' ?_); (have hM0 := hM; clear hM; refine BigFrame.wpList_want (by rfl) fun K hK => ws_slice_row hM0 (n := 1) rfl 3 1 (.int .i64 0) [iv t] Try.underlying57 (by kernel_rfl) rfl (by simp [Value.cells, iv, sv, bv]) (by rfl) (by decide) (cs := ivs [(t : Int)]) (by rfl) (fun g6 w hM => hK _ _ ?_); clear hM0 hK K)) | fail) | (go_at_call 49; have hM0 := hM; clear hM; (first | (with_reducible refine (HN.out _ g6 _ hM0 (by (repeat (first | assumption | (with_reducible exact mZ) | apply mS)); first | done | fail)).mono ?_) | fail); clear hM0; rintro _ w ⟨rfl, hM⟩) | (first | ((with_reducible refine at_slice' ?_); (have hM0 := hM; clear hM; refine BigFrame.wpList_want (by rfl) fun K hK => ws_slice_row hM0 (n := 2) rfl 9 1 (.string ByteArray.empty) [sv [104, 101, 97, 100], sv s] Try.underlying59 (by kernel_rfl) rfl (by simp [Value.cells, iv, sv, bv]) (by rfl) (by decide) (cs := svs [[104, 101, 97, 100], s]) (by rfl) (fun g9 w hM => hK _ _ ?_); clear hM0 hK K)) | fail) | (go_at_call 65; have hM0 := hM; clear hM; (first | (with_reducible refine (HO.out _ g9 _ hM0 (by (repeat (first | assumption | (with_reducible exact mZ) | apply mS)); first | done | fail)).mono ?_) | fail); clear hM0; rintro _ w ⟨rfl, hM⟩) | (first | ((with_reducible refine at_alloc' ?_); (have hM0 := hM; clear hM; refine BigFrame.wpList_want (by rfl) fun K hK => ws_alloc hM0 (t := 72) rfl (bvs z32).toArray info_sum (fun g4 w hM => hK _ _ ?_); clear hM0 hK K)) | fail) | (first | ((with_reducible refine at_store' ?_); (have hM0 := hM; clear hM; refine BigFrame.wpList_want (by rfl) fun K hK => ws_store hM0 rfl rfl rfl (by (repeat (first | (with_reducible exact Take.head) | apply Take.tail)); first | done | fail) (n := 32) (by simp [bvs_len, HSL.out]) (by simp [bvs_len, z32_len]) (by kernel_rfl) (by simpa using bvs_oneCell _) (fun w hM => hK _ _ ?_); clear hM0 hK K)) | fail) | (first | ((with_reducible refine at_convert' ?_); (refine BigFrame.wpList_want (by rfl) fun K hK => ws_string (l := h) rfl 5 Try.underlying84 Try.underlying9 Try.underlying5 rfl (by first | (apply Star.row hM; (repeat (first | assumption | (with_reducible exact mZ) | apply mS)); done) | (apply Star.own hM; (repeat (first | assumption | (with_reducible exact mZ) | apply mS)); done) | (apply Star.arr hM; (focus ((repeat (first | assumption | (with_reducible exact mZ) | apply mS)); done)); assumption)) (hK _ _ ?_); clear hK K)) | fail))
  go_ret
  exact ⟨ret_str HR.out, hM.sel (by repeat (first | (with_reducible exact Sel.refl) | (with_reducible exact Take.head) | (with_reducible apply Take.tail) | (with_reducible apply Sel.cons) | (with_reducible apply Sel.drop)))⟩
set_option maxRecDepth 100000 in
theorem seed_b (t : Nat) (ht : t ≤ 1000000) (w : World) (hM : Star L w) : Calls Try.prog 77 #[.int .i64 t] w fun r w' => r = .returned (.string ⟨(seedT t).toArray⟩) ∧ Star L w' := by
  have hl := encNum_len t
  have HN : Hid (∀ (L : List SProp) (g : Nat) (w : World), Star L w → rowE 1 (some ⟨g, 0, none⟩) 1 (ivs [(t : Int)]) ∈ L → Calls Try.prog 49 #[.slice (some ⟨g, 0, none⟩) 1 1] w fun r w' => r = .returned (.string ⟨(encNum t).toArray⟩) ∧ Star L w') := fun L g w hM hx => numsT t ht g w hM hx
  have HO : Hid (∀ (L : List SProp) (g : Nat) (w : World), Star L w → rowE 1 (some ⟨g, 0, none⟩) 2 (svs [[116, 117, 114, 110], encNum t]) ∈ L → Calls Try.prog 65 #[.slice (some ⟨g, 0, none⟩) 2 2] w fun r w' => r = .returned (.agg (bvs (seedT t)).toArray) ∧ Star L w') := fun L g w hM hx => of2 _ _ (by simp) (by omega) g w hM hx
  have hsl := seedT_len t
  generalize seedT t = h at HO hsl ⊢
  have HSL := Lib.hid hsl
  generalize encNum t = s at HN HO hl
  go_enter Try.func77, Try.ntmps77
  go_wp2_with (first | (first | ((with_reducible refine at_slice' ?_); (have hM0 := hM; clear hM; refine BigFrame.wpList_want (by rfl) fun K hK => ws_slice_row hM0 (n := 1) rfl 3 1 (.int .i64 0) [iv t] Try.underlying57 (by kernel_rfl) rfl (by simp [Value.cells, iv, sv, bv]) (by rfl) (by decide) (cs := ivs [(t : Int)]) (by rfl) (fun g5 w hM => hK _ _ ?_); clear hM0 hK K)) | fail) | (go_at_call 49; have hM0 := hM; clear hM; (first | (with_reducible refine (HN.out _ g5 _ hM0 (by (repeat (first | assumption | (with_reducible exact mZ) | apply mS)); first | done | fail)).mono ?_) | fail); clear hM0; rintro _ w ⟨rfl, hM⟩) | (first | ((with_reducible refine at_slice' ?_); (have hM0 := hM; clear hM; refine BigFrame.wpList_want (by rfl) fun K hK => ws_slice_row hM0 (n := 2) rfl 9 1 (.string ByteArray.empty) [sv [116, 117, 114, 110], sv s] Try.underlying59 (by kernel_rfl) rfl (by simp [Value.cells, iv, sv, bv]) (by rfl) (by decide) (cs := svs [[116, 117, 114, 110], s]) (by rfl) (fun g9 w hM => hK _ _ ?_); clear hM0 hK K)) | fail) | (go_at_call 65; have hM0 := hM; clear hM; (first | (with_reducible refine (HO.out _ g9 _ hM0 (by (repeat (first | assumption | (with_reducible exact mZ) | apply mS)); first | done | fail)).mono ?_) | fail); clear hM0; rintro _ w ⟨rfl, hM⟩) | (first | ((with_reducible refine at_alloc' ?_); (have hM0 := hM; clear hM; refine BigFrame.wpList_want (by rfl) fun K hK => ws_alloc hM0 (t := 72) rfl (bvs z32).toArray info_sum (fun g4 w hM => hK _ _ ?_); clear hM0 hK K)) | fail) | (first | ((with_reducible refine at_store' ?_); (have hM0 := hM; clear hM; refine BigFrame.wpList_want (by rfl) fun K hK => ws_store hM0 rfl rfl rfl (by (repeat (first | (with_reducible exact Take.head) | apply Take.tail)); first | done | fail) (n := 32) (by simp [bvs_len, HSL.out]) (by simp [bvs_len, z32_len]) (by kernel_rfl) (by simpa using bvs_oneCell _) (fun w hM => hK _ _ ?_); clear hM0 hK K)) | fail) | (first | ((with_reducible refine at_convert' ?_); (refine BigFrame.wpList_want (by rfl) fun K hK => ws_string (l := h) rfl 5 Try.underlying84 Try.underlying9 Try.underlying5 rfl (by first | (apply Star.row hM; (repeat (first | assumption | (with_reducible exact mZ) | apply mS)); done) | (apply Star.own hM; (repeat (first | assumption | (with_reducible exact mZ) | apply mS)); done) | (apply Star.arr hM; (focus ((repeat (first | assumption | (with_reducible exact mZ) | apply mS)); done)); assumption)) (hK _ _ ?_); clear hK K)) | fail))
  go_ret
  exact ⟨rfl, hM.sel (by repeat (first | (with_reducible exact Sel.refl) | (with_reducible exact Take.head) | (with_reducible apply Take.tail) | (with_reducible apply Sel.cons) | (with_reducible apply Sel.drop)))⟩
set_option maxRecDepth 100000 in
theorem spell_b {p d : List UInt8} {k : Nat} (hk : k ≤ 200) (hp : p.length = 32) (hd : d.length ≤ 4096) (w : World) (hM : Star L w) : Calls Try.prog 37 #[.string ⟨p.toArray⟩, .int .i64 k, .string ⟨d.toArray⟩] w fun r w' => r = .returned (.tuple #[.string ⟨(rtxt p (k, d)).toArray⟩, .string ⟨(rsum p (k, d)).toArray⟩]) ∧ Star L w' := by
  have hl := encNum_len k
  have hl2 := encStr_len d
  have HN : Hid (∀ (L : List SProp) (g : Nat) (w : World), Star L w → rowE 1 (some ⟨g, 0, none⟩) 1 (ivs [(k : Int)]) ∈ L → Calls Try.prog 49 #[.slice (some ⟨g, 0, none⟩) 1 1] w fun r w' => r = .returned (.string ⟨(encNum k).toArray⟩) ∧ Star L w') := fun L g w hM hx => numsT k (by omega) g w hM hx
  have HS : Hid (∀ (L : List SProp) (w : World), Star L w → Calls Try.prog 64 #[.string ⟨d.toArray⟩] w fun r w' => r = .returned (.string ⟨(encStr d).toArray⟩) ∧ Star L w') := fun L w hM => str_star d (by omega) w hM
  have HO : Hid (∀ (L : List SProp) (g : Nat) (w : World), Star L w → rowE 1 (some ⟨g, 0, none⟩) 2 (svs [p, encNum k ++ encStr d]) ∈ L → Calls Try.prog 65 #[.slice (some ⟨g, 0, none⟩) 2 2] w fun r w' => r = .returned (.agg (bvs (rsum p (k, d))).toArray) ∧ Star L w') := fun L g w hM hx => of2 p (encNum k ++ encStr d) (by omega) (by rw [List.length_append]; omega) g w hM hx
  have HR : Hid (rsum p (k, d) ++ (encNum k ++ encStr d) = rtxt p (k, d)) := rfl
  have hsl := rsum_len p (k, d)
  generalize rsum p (k, d) = h at HO HR hsl ⊢
  generalize encNum k = s at HN HO HR hl
  generalize encStr d = u at HS HO HR hl2
  have HSL := Lib.hid hsl
  replace hl2 : u.length ≤ 4105 := by omega
  have hn1 : ¬ (9223372036854775807 < s.length + u.length) := by omega
  have hn2 : ¬ (9223372036854775807 < 32 + (s.length + u.length)) := by omega
  clear hd
  go_enter Try.func37, Try.ntmps37
  go_wp2_with (first | (first | ((with_reducible refine at_slice' ?_); (have hM0 := hM; clear hM; refine BigFrame.wpList_want (by rfl) fun K hK => ws_slice_row hM0 (n := 1) rfl 3 1 (.int .i64 0) [iv k] Try.underlying57 (by kernel_rfl) rfl (by simp [Value.cells, iv, sv, bv]) (by rfl) (by decide) (cs := ivs [(k : Int)]) (by rfl) (fun g5 w hM => hK _ _ ?_); clear hM0 hK K)) | fail) | (go_at_call 49; have hM0 := hM; clear hM; (first | (with_reducible refine (HN.out _ g5 _ hM0 (by (repeat (first | assumption | (with_reducible exact mZ) | apply mS)); first | done | fail)).mono ?_) | fail); clear hM0; rintro _ w ⟨rfl, hM⟩) | (go_at_call 64; have hM0 := hM; clear hM; (first | (with_reducible refine (HS.out _ _ hM0).mono ?_) | fail); clear hM0; rintro _ w ⟨rfl, hM⟩) | (first | ((with_reducible refine at_slice' ?_); (have hM0 := hM; clear hM; refine BigFrame.wpList_want (by rfl) fun K hK => ws_slice_row hM0 (n := 2) rfl 9 1 (.string ByteArray.empty) [sv p, sv (s ++ u)] Try.underlying59 (by kernel_rfl) rfl (by simp [Value.cells, iv, sv, bv]) (by rfl) (by decide) (cs := svs [p, s ++ u]) (by rfl) (fun g9 w hM => hK _ _ ?_); clear hM0 hK K)) | fail) | (go_at_call 65; have hM0 := hM; clear hM; (first | (with_reducible refine (HO.out _ g9 _ hM0 (by (repeat (first | assumption | (with_reducible exact mZ) | apply mS)); first | done | fail)).mono ?_) | fail); clear hM0; rintro _ w ⟨rfl, hM⟩) | (first | ((with_reducible refine at_alloc' ?_); (have hM0 := hM; clear hM; refine BigFrame.wpList_want (by rfl) fun K hK => ws_alloc hM0 (t := 72) rfl (bvs z32).toArray info_sum (fun g4 w hM => hK _ _ ?_); clear hM0 hK K)) | fail) | (first | ((with_reducible refine at_store' ?_); (have hM0 := hM; clear hM; refine BigFrame.wpList_want (by rfl) fun K hK => ws_store hM0 rfl rfl rfl (by (repeat (first | (with_reducible exact Take.head) | apply Take.tail)); first | done | fail) (n := 32) (by simp [bvs_len, HSL.out]) (by simp [bvs_len, z32_len]) (by kernel_rfl) (by simpa using bvs_oneCell _) (fun w hM => hK _ _ ?_); clear hM0 hK K)) | fail))
  (refine region_RS ([cellsE g4 72 (bvs h).toArray]) [] (by kernel_rfl) hM ?_; clear hM; change RS _ _ _ _ _ _ 8 (Array.replicate 8 false) _ _; refine RS_take (i := 0) rfl (by decide +kernel) (fun _ _ _ h => h) (by first | (intro x hx; (repeat (first | exact hx | apply mS)); done) | ((repeat (refine List.forall_mem_cons.2 ⟨(by (repeat (first | assumption | (with_reducible exact mZ) | apply mS)); first | done | fail), ?_⟩)); intro x hx; first | (cases hx; done) | ((repeat (first | exact hx | apply mS)); done))) (stab_pure (by rfl) (fun w => (by go_simp; try with_reducible rfl))) ?_; simp only [Act.put, List.setIfInBounds_toArray, List.set_cons_zero, List.set_cons_succ]; refine RS_take (i := 1) rfl (by decide +kernel) (fun _ _ _ h => h) (by first | (intro x hx; (repeat (first | exact hx | apply mS)); done) | ((repeat (refine List.forall_mem_cons.2 ⟨(by (repeat (first | assumption | (with_reducible exact mZ) | apply mS)); first | done | fail), ?_⟩)); intro x hx; first | (cases hx; done) | ((repeat (first | exact hx | apply mS)); done))) (stab_read (by rfl) (fun L w hL hM => (ex_string rfl 5 Try.underlying84 Try.underlying9 Try.underlying5 rfl (hM.arr (hL _ (by (repeat (first | assumption | (with_reducible exact mZ) | apply mS)); first | done | fail)) HSL.out)))) ?_; simp only [Act.put, List.setIfInBounds_toArray, List.set_cons_zero, List.set_cons_succ]; refine RS_take (i := 2) rfl (by decide +kernel) (fun _ _ _ h => h) (by first | (intro x hx; (repeat (first | exact hx | apply mS)); done) | ((repeat (refine List.forall_mem_cons.2 ⟨(by (repeat (first | assumption | (with_reducible exact mZ) | apply mS)); first | done | fail), ?_⟩)); intro x hx; first | (cases hx; done) | ((repeat (first | exact hx | apply mS)); done))) (stab_pure (by rfl) (fun w => (by go_simp; try with_reducible rfl))) ?_; simp only [Act.put, List.setIfInBounds_toArray, List.set_cons_zero, List.set_cons_succ]; refine RS_take (i := 3) rfl (by decide +kernel) (fun _ _ _ h => h) (by first | (intro x hx; (repeat (first | exact hx | apply mS)); done) | ((repeat (refine List.forall_mem_cons.2 ⟨(by (repeat (first | assumption | (with_reducible exact mZ) | apply mS)); first | done | fail), ?_⟩)); intro x hx; first | (cases hx; done) | ((repeat (first | exact hx | apply mS)); done))) (stab_pure (by rfl) (fun w => (by go_simp; try with_reducible rfl))) ?_; simp only [Act.put, List.setIfInBounds_toArray, List.set_cons_zero, List.set_cons_succ]; refine RS_take (i := 4) rfl (by decide +kernel) (fun _ _ _ h => h) (by first | (intro x hx; (repeat (first | exact hx | apply mS)); done) | ((repeat (refine List.forall_mem_cons.2 ⟨(by (repeat (first | assumption | (with_reducible exact mZ) | apply mS)); first | done | fail), ?_⟩)); intro x hx; first | (cases hx; done) | ((repeat (first | exact hx | apply mS)); done))) (stab_pure (by rfl) (fun w => (by go_simp; try with_reducible rfl))) ?_; simp only [Act.put, List.setIfInBounds_toArray, List.set_cons_zero, List.set_cons_succ]; refine RS_take (i := 5) rfl (by decide +kernel) (fun _ _ _ h => h) (by first | (intro x hx; (repeat (first | exact hx | apply mS)); done) | ((repeat (refine List.forall_mem_cons.2 ⟨(by (repeat (first | assumption | (with_reducible exact mZ) | apply mS)); first | done | fail), ?_⟩)); intro x hx; first | (cases hx; done) | ((repeat (first | exact hx | apply mS)); done))) (stab_read (by rfl) (fun L w hL hM => (ex_string rfl 5 Try.underlying84 Try.underlying9 Try.underlying5 rfl (hM.arr (hL _ (by (repeat (first | assumption | (with_reducible exact mZ) | apply mS)); first | done | fail)) HSL.out)))) ?_; simp only [Act.put, List.setIfInBounds_toArray, List.set_cons_zero, List.set_cons_succ]; refine RS_take (i := 6) rfl (by decide +kernel) (fun _ _ _ h => h) (by first | (intro x hx; (repeat (first | exact hx | apply mS)); done) | ((repeat (refine List.forall_mem_cons.2 ⟨(by (repeat (first | assumption | (with_reducible exact mZ) | apply mS)); first | done | fail), ?_⟩)); intro x hx; first | (cases hx; done) | ((repeat (first | exact hx | apply mS)); done))) (stab_pure (by rfl) (fun w => (by go_simp; try with_reducible rfl))) ?_; simp only [Act.put, List.setIfInBounds_toArray, List.set_cons_zero, List.set_cons_succ]; refine RS_take (i := 7) rfl (by decide +kernel) (fun _ _ _ h => h) (by first | (intro x hx; (repeat (first | exact hx | apply mS)); done) | ((repeat (refine List.forall_mem_cons.2 ⟨(by (repeat (first | assumption | (with_reducible exact mZ) | apply mS)); first | done | fail), ?_⟩)); intro x hx; first | (cases hx; done) | ((repeat (first | exact hx | apply mS)); done))) (stab_pure (by rfl) (fun w => (by go_simp; try with_reducible rfl))) ?_; simp only [Act.put, List.setIfInBounds_toArray, List.set_cons_zero, List.set_cons_succ]; refine RS_done (by decide +kernel) (.inl (by first | (intro x hx; (repeat (first | exact hx | apply mS)); done) | ((repeat (refine List.forall_mem_cons.2 ⟨(by (repeat (first | assumption | (with_reducible exact mZ) | apply mS)); first | done | fail), ?_⟩)); intro x hx; first | (cases hx; done) | ((repeat (first | exact hx | apply mS)); done)))) (fun w hM => ?_))
  go_wp2_with fail
  go_ret2
  exact ⟨by rw [← HR.out]; rfl, hM.sel (by repeat (first | (with_reducible exact Sel.refl) | (with_reducible exact Take.head) | (with_reducible apply Take.tail) | (with_reducible apply Sel.cons) | (with_reducible apply Sel.drop)))⟩
set_option maxRecDepth 100000 in
theorem split_b (s : List UInt8) (n : Nat) (hs : s.length ≤ 100000) (h1 : 64 * n < s.length + 64) (h2 : s.length ≤ 64 * n) (h0 : 1 ≤ s.length) (w : World) (hM : Star L w) : Calls Try.prog 39 #[.string ⟨s.toArray⟩] w fun r w' => ∃ A c, r = .returned (.slice A n c) ∧ Star (rowE 1 A n (svs (spl s n)) :: L) w' := by
  have HH1 := Lib.hid h1
  have HH2 := Lib.hid h2
  have HHs := Lib.hid hs
  have HH0 := Lib.hid h0
  clear h1 h2 hs h0
  go_enter Try.func39, Try.ntmps39
  go_wp2
  replace hM := hM.nilown 9 1
  go_loopw [0, 3] (fun v out wr => ∃ (j m : Nat) (A : Option Addr) (c : Nat) (u : List UInt8), v = .string ⟨u.toArray⟩ ∧ u.length = m ∧ m + 64 * j = s.length ∧ 1 ≤ m ∧ j ≤ 2000 ∧ Hid (u = s.drop (64 * j)) ∧ out = .slice A j c ∧ Star (ownE 9 1 A j c (svs (spl s j)) :: L) wr) (fun _ v _ => 2000 - slLen v)
  case atStart => exact ⟨0, s.length, none, 0, s, rfl, rfl, by omega, HH0.out, by omega, rfl, rfl, hM⟩
  case round =>
    clear hM
    obtain ⟨j, m, A, c, u, rfl, hu, hm, hm1, hj2, hud, rfl, hM⟩ := hrel
    by_cases hg : 64 < m
    · have h1 : (64 : Int) < m := by omega
      have h2 : ¬ (64 : Int) > (m : Int) := by omega
      go_wp2_with (first | (first | ((with_reducible refine at_slice' ?_); (have hM0 := hM; clear hM; refine BigFrame.wpList_want (by rfl) fun K hK => ws_slice_row hM0 (n := 1) rfl 9 1 (.string ByteArray.empty) [sv (u.take 64)] Try.underlying59 (by kernel_rfl) rfl (by simp [Value.cells, iv, sv, bv]) (by rfl) (by decide) (cs := svs [u.take 64]) (by rfl) (fun gr w hM => hK _ _ ?_); clear hM0 hK K)) | fail) | (first | ((with_reducible refine at_call' ?_); (have hM0 := hM; clear hM; refine BigFrame.wpList_want (by rfl) fun K hK => ws_append hM0 rfl rfl rfl 9 ((.string ByteArray.empty)) 1 16 Try.underlying59 (by kernel_rfl) (by rfl) (by decide) (by (repeat (first | (with_reducible exact Take.head) | apply Take.tail)); first | done | fail) (by first | (apply Star.row hM0; (repeat (first | assumption | (with_reducible exact mZ) | apply mS)); done) | (apply Star.own hM0; (repeat (first | assumption | (with_reducible exact mZ) | apply mS)); done) | (apply Star.arr hM0; (focus ((repeat (first | assumption | (with_reducible exact mZ) | apply mS)); done)); assumption)) (svs_one [u.take 64]) ((by omega)) (fun A1 c1 w hM hnil => hK _ _ ?_); clear hM0 hK K)) | fail))
      go_roundw
      case rel =>
        refine ⟨j + 1, m - 64, A1, c1, u.drop 64, ?_, by rw [List.length_drop]; omega, by omega, by omega, by have := HHs.out; omega, ?_, rfl, ?_⟩
        · first | rfl | rw [List.take_of_length_le (l := u) (by omega)] | simp
        · show _ = _
          rw [hud.out, List.drop_drop]
          congr 1
        · rw [spl_succ, ← hud.out, svs_app]
          exact hM.sel (by repeat (first | (with_reducible exact Sel.refl) | (with_reducible exact Take.head) | (with_reducible apply Take.tail) | (with_reducible apply Sel.cons) | (with_reducible apply Sel.drop)))
      case measure => have := HHs.out; simp [slLen]; omega
    · have hjn : n = j + 1 := by have := HH1.out; have := HH2.out; omega
      subst hjn
      have h1 : ¬ (64 : Int) < m := by omega
      have hut : u.take 64 = u := List.take_of_length_le (by omega)
      have HUT := Lib.hid hut
      clear hut
      go_wp2_with (first | (first | ((with_reducible refine at_slice' ?_); (have hM0 := hM; clear hM; refine BigFrame.wpList_want (by rfl) fun K hK => ws_slice_row hM0 (n := 1) rfl 9 1 (.string ByteArray.empty) [sv u] Try.underlying59 (by kernel_rfl) rfl (by simp [Value.cells, iv, sv, bv]) (by rfl) (by decide) (cs := svs [u]) (by rfl) (fun gr w hM => hK _ _ ?_); clear hM0 hK K)) | fail) | (first | ((with_reducible refine at_call' ?_); (have hM0 := hM; clear hM; refine BigFrame.wpList_want (by rfl) fun K hK => ws_append hM0 rfl rfl rfl 9 ((.string ByteArray.empty)) 1 16 Try.underlying59 (by kernel_rfl) (by rfl) (by decide) (by (repeat (first | (with_reducible exact Take.head) | apply Take.tail)); first | done | fail) (by first | (apply Star.row hM0; (repeat (first | assumption | (with_reducible exact mZ) | apply mS)); done) | (apply Star.own hM0; (repeat (first | assumption | (with_reducible exact mZ) | apply mS)); done) | (apply Star.arr hM0; (focus ((repeat (first | assumption | (with_reducible exact mZ) | apply mS)); done)); assumption)) (svs_one [u]) ((by omega)) (fun A1 c1 w hM hnil => hK _ _ ?_); clear hM0 hK K)) | fail))
      go_ret
      have := hM.freeze
      rw [spl_succ, ← hud.out, svs_app, HUT.out]
      exact ⟨A1, ⟨c1, rfl⟩, this.sel (by repeat (first | (with_reducible exact Sel.refl) | (with_reducible exact Take.head) | (with_reducible apply Take.tail) | (with_reducible apply Sel.cons) | (with_reducible apply Sel.drop)))⟩
end
end Go.Proofs.Ytnckgkgilnmocaa
set_option linter.unusedSimpArgs false
set_option linter.unusedVariables false
namespace Go.Proofs.Ytnckgkgilnmocaa
open Go.RowKit
attribute [local go_sem] extract_mid extract_drop bget bsize wrap64_u8 i64_u8 u64_u8 bappend
abbrev bkC (a : DA) (t : Nat) (p : List UInt8) (e : Nat) (m : Value) : Array Value := #[dptr a, .int .i64 (t : Int), .string ⟨p.toArray⟩, .int .i64 (e : Int), m]
abbrev bkc (b : Nat) (a : DA) (t : Nat) (p : List UInt8) (e : Nat) (m : Value) : SProp := cellsE b 45 (bkC a t p e m)
abbrev bptr (b : Nat) : Value := .pointer (some ⟨b, 0, none⟩)
/-- Where a turn's half begins. -/
def frT (h t : Nat) : Nat := 2 + t % 2 * h
theorem frT_le (h t : Nat) : frT h t ≤ 2 + h := by
  unfold frT
  have : t % 2 * h ≤ 1 * h := Nat.mul_le_mul_right h (by omega)
  omega
section
variable {L : List SProp} {b t e : Nat} {a : DA} {p : List UInt8} {m : Value} {D : Dsk}
theorem sizeT (w : World) (hM : Star L w) (hd : diskE a D ∈ L) : Calls Try.prog 69 #[dptr a] w fun r w' => r = .returned (.int .i64 (D.sure.length : Int)) ∧ Star L w' := hM.stays hd fun R hR => size_d w hR
set_option maxRecDepth 100000 in
theorem half_b {N h : Nat} (hN : D.sure.length = N) (h2 : 2 ≤ N) (h6 : N ≤ 65536) (hh : (N - 2) / 2 = h) (w : World) (hM : Star L w) (hb : bkc b a t p e m ∈ L) (hd : diskE a D ∈ L) : Calls Try.prog 41 #[bptr b] w fun r w' => r = .returned (.int .i64 (h : Int)) ∧ Star L w' := by
  have HZ : Hid (∀ (L : List SProp) (w : World), Star L w → diskE a D ∈ L → Calls Try.prog 69 #[dptr a] w fun r w' => r = .returned (.int .i64 (N : Int)) ∧ Star L w') := fun L w hM hd => by have := sizeT w hM hd; rwa [hN] at this
  have HH := Lib.hid hh
  obtain ⟨n, rfl⟩ : ∃ n, N = n + 2 := ⟨N - 2, by omega⟩
  clear hh hN
  go_enter Try.func41, Try.ntmps41
  go_wp2_with (first | (first | ((with_reducible refine at_load' ?_); (refine BigFrame.wpList_want (by rfl) fun K hK => ws_load hM rfl rfl (by (repeat (first | assumption | (with_reducible exact mZ) | apply mS)); first | done | fail) (n := 5) (by rfl) (by decide +kernel) (hK _ _ ?_); clear hK K)) | fail) | (first | ((with_reducible refine at_load' ?_); (refine BigFrame.wpList_want (by rfl) fun K hK => ws_load1 hM rfl rfl (by (repeat (first | assumption | (with_reducible exact mZ) | apply mS)); first | done | fail) (by first | rfl | assumption) (by decide +kernel) (hK _ _ ?_); clear hK K)) | fail) | (go_at_call 69; have hM0 := hM; clear hM; (first | (with_reducible refine (HZ.out _ _ hM0 (by (repeat (first | assumption | (with_reducible exact mZ) | apply mS)); first | done | fail)).mono ?_) | fail); clear hM0; rintro _ w ⟨rfl, hM⟩))
  go_ret
  exact ⟨by rw [← HH.out]; go_num, hM.sel (by repeat (first | (with_reducible exact Sel.refl) | (with_reducible exact Take.head) | (with_reducible apply Take.tail) | (with_reducible apply Sel.cons) | (with_reducible apply Sel.drop)))⟩
/-- What the functions of a book need of its disk. -/
structure HalfOk (D : Dsk) (h : Nat) : Prop where
  lo : 4 ≤ D.sure.length
  hi : D.sure.length ≤ 65536
  half : (D.sure.length - 2) / 2 = h
theorem HalfOk.le {D : Dsk} {h : Nat} (H : HalfOk D h) : 1 ≤ h ∧ 2 + h + h ≤ D.sure.length ∧ h ≤ 40000 := by
  have := H.lo; have := H.hi; have := H.half
  omega
theorem HalfOk.same {D D' : Dsk} {h : Nat} (H : HalfOk D h) (e : D'.sure.length = D.sure.length) : HalfOk D' h := ⟨by rw [e]; exact H.lo, by rw [e]; exact H.hi, by rw [e]; exact H.half⟩
theorem halfT {h : Nat} (H : HalfOk D h) (w : World) (hM : Star L w) (hb : bkc b a t p e m ∈ L) (hd : diskE a D ∈ L) : Calls Try.prog 41 #[bptr b] w fun r w' => r = .returned (.int .i64 (h : Int)) ∧ Star L w' :=
  half_b rfl (by have := H.lo; omega) H.hi H.half w hM hb hd
set_option maxRecDepth 100000 in
theorem from_b {h u : Nat} (H : HalfOk D h) (hu : u ≤ 1000000) (w : World) (hM : Star L w) (hb : bkc b a t p e m ∈ L) (hd : diskE a D ∈ L) : Calls Try.prog 47 #[bptr b, .int .i64 (u : Int)] w fun r w' => r = .returned (.int .i64 (frT h u : Int)) ∧ Star L w' := by
  have HZ : Hid (∀ (L : List SProp) (w : World), Star L w → bkc b a t p e m ∈ L → diskE a D ∈ L → Calls Try.prog 41 #[bptr b] w fun r w' => r = .returned (.int .i64 (h : Int)) ∧ Star L w') := fun L w hM hb hd => halfT H w hM hb hd
  have h3 := H.le.2.2
  have HF : Hid (2 + u % 2 * h = frT h u) := rfl
  generalize frT h u = z at HF ⊢
  clear H
  rcases Nat.mod_two_eq_zero_or_one u with hm | hm
  all_goals
    rw [hm] at HF
    have hm2 : Int.tmod (u : Int) 2 = ((u % 2 : Nat) : Int) := by rw [Int.tmod_eq_emod_of_nonneg (by omega)]; rfl
    rw [hm] at hm2
    clear hm
    simp only [Int.natCast_zero, Int.natCast_one] at hm2
    go_enter Try.func47, Try.ntmps47
    go_wp2_with (first | (go_at_call 41; have hM0 := hM; clear hM; (first | (with_reducible refine (HZ.out _ _ hM0 (by (repeat (first | assumption | (with_reducible exact mZ) | apply mS)); first | done | fail) (by (repeat (first | assumption | (with_reducible exact mZ) | apply mS)); first | done | fail)).mono ?_) | fail); clear hM0; rintro _ w ⟨rfl, hM⟩))
    go_ret
    refine ⟨?_, hM.sel (by repeat (first | (with_reducible exact Sel.refl) | (with_reducible exact Take.head) | (with_reducible apply Take.tail) | (with_reducible apply Sel.cons) | (with_reducible apply Sel.drop)))⟩
    rw [← HF.out]
    first | go_num | simp
set_option maxRecDepth 100000 in
theorem left_b {h : Nat} (H : HalfOk D h) (ht : t ≤ 1000000) (he : e ≤ frT h t + h) (w : World) (hM : Star L w) (hb : bkc b a t p e m ∈ L) (hd : diskE a D ∈ L) : Calls Try.prog 20 #[bptr b] w fun r w' => r = .returned (.int .i64 ((frT h t + h - e : Nat) : Int)) ∧ Star L w' := by
  have HZ : Hid (∀ (L : List SProp) (w : World), Star L w → bkc b a t p e m ∈ L → diskE a D ∈ L → Calls Try.prog 41 #[bptr b] w fun r w' => r = .returned (.int .i64 (h : Int)) ∧ Star L w') := fun L w hM hb hd => halfT H w hM hb hd
  have HF : Hid (∀ (L : List SProp) (w : World), Star L w → bkc b a t p e m ∈ L → diskE a D ∈ L → Calls Try.prog 47 #[bptr b, .int .i64 (t : Int)] w fun r w' => r = .returned (.int .i64 (frT h t : Int)) ∧ Star L w') := fun L w hM hb hd => from_b H ht w hM hb hd
  have h3 := H.le.2.2
  have h4 := frT_le h t
  generalize frT h t = z at HF he h4 ⊢
  have hsub : ((z : Int) + h - e) = ((z + h - e : Nat) : Int) := by omega
  have HSUB := Lib.hid hsub
  clear H hsub
  go_enter Try.func20, Try.ntmps20
  go_wp2_with fail
  (refine region_RS ([bkc b a t p e m, diskE a D]) [] (by kernel_rfl) hM ?_; clear hM; change RS _ _ _ _ _ _ 15 (Array.replicate 15 false) _ _; refine RS_take (i := 0) rfl (by decide +kernel) (fun _ _ _ h => h) (by first | (intro x hx; (repeat (first | exact hx | apply mS)); done) | ((repeat (refine List.forall_mem_cons.2 ⟨(by (repeat (first | assumption | (with_reducible exact mZ) | apply mS)); first | done | fail), ?_⟩)); intro x hx; first | (cases hx; done) | ((repeat (first | exact hx | apply mS)); done))) (stab_pure (by rfl) (fun w => (by go_simp; try with_reducible rfl))) ?_; simp only [Act.put, List.setIfInBounds_toArray, List.set_cons_zero, List.set_cons_succ]; refine RS_take (i := 1) rfl (by decide +kernel) (fun _ _ _ h => h) (by first | (intro x hx; (repeat (first | exact hx | apply mS)); done) | ((repeat (refine List.forall_mem_cons.2 ⟨(by (repeat (first | assumption | (with_reducible exact mZ) | apply mS)); first | done | fail), ?_⟩)); intro x hx; first | (cases hx; done) | ((repeat (first | exact hx | apply mS)); done))) (stab_pure (by rfl) (fun w => (by go_simp; try with_reducible rfl))) ?_; simp only [Act.put, List.setIfInBounds_toArray, List.set_cons_zero, List.set_cons_succ]; refine RS_take (i := 2) rfl (by decide +kernel) (fun _ _ _ h => h) (by first | (intro x hx; (repeat (first | exact hx | apply mS)); done) | ((repeat (refine List.forall_mem_cons.2 ⟨(by (repeat (first | assumption | (with_reducible exact mZ) | apply mS)); first | done | fail), ?_⟩)); intro x hx; first | (cases hx; done) | ((repeat (first | exact hx | apply mS)); done))) (stab_pure (by rfl) (fun w => (by go_simp; try with_reducible rfl))) ?_; simp only [Act.put, List.setIfInBounds_toArray, List.set_cons_zero, List.set_cons_succ]; refine RS_take (i := 3) rfl (by decide +kernel) (fun _ _ _ h => h) (by first | (intro x hx; (repeat (first | exact hx | apply mS)); done) | ((repeat (refine List.forall_mem_cons.2 ⟨(by (repeat (first | assumption | (with_reducible exact mZ) | apply mS)); first | done | fail), ?_⟩)); intro x hx; first | (cases hx; done) | ((repeat (first | exact hx | apply mS)); done))) (stab_pure (by rfl) (fun w => (by go_simp; try with_reducible rfl))) ?_; simp only [Act.put, List.setIfInBounds_toArray, List.set_cons_zero, List.set_cons_succ]; refine RS_take (i := 4) rfl (by decide +kernel) (fun _ _ _ h => h) (by first | (intro x hx; (repeat (first | exact hx | apply mS)); done) | ((repeat (refine List.forall_mem_cons.2 ⟨(by (repeat (first | assumption | (with_reducible exact mZ) | apply mS)); first | done | fail), ?_⟩)); intro x hx; first | (cases hx; done) | ((repeat (first | exact hx | apply mS)); done))) (stab_read (by rfl) (fun L w hL hM => (by first | exact ex_load1 hM rfl rfl (hL _ (by (repeat (first | assumption | (with_reducible exact mZ) | apply mS)); first | done | fail)) rfl (by kernel_rfl) | exact ex_rowload rfl rfl (hM.row (hL _ (by (repeat (first | assumption | (with_reducible exact mZ) | apply mS)); first | done | fail))) (by assumption) (by kernel_rfl) | exact ex_rowload0 rfl rfl (hM.row (hL _ (by (repeat (first | assumption | (with_reducible exact mZ) | apply mS)); first | done | fail))) (by assumption) (by kernel_rfl)))) ?_; simp only [Act.put, List.setIfInBounds_toArray, List.set_cons_zero, List.set_cons_succ]; refine RS_take (i := 5) rfl (by decide +kernel) (fun _ _ _ h => h) (by first | (intro x hx; (repeat (first | exact hx | apply mS)); done) | ((repeat (refine List.forall_mem_cons.2 ⟨(by (repeat (first | assumption | (with_reducible exact mZ) | apply mS)); first | done | fail), ?_⟩)); intro x hx; first | (cases hx; done) | ((repeat (first | exact hx | apply mS)); done))) (stab_call (by rfl) (fun w => (by go_simp; try with_reducible rfl)) (fun L w hL hM => (HF.out _ w hM (hL _ (by (repeat (first | assumption | (with_reducible exact mZ) | apply mS)); first | done | fail)) (hL _ (by (repeat (first | assumption | (with_reducible exact mZ) | apply mS)); first | done | fail))))) ?_; simp only [Act.put, List.setIfInBounds_toArray, List.set_cons_zero, List.set_cons_succ]; refine RS_take (i := 6) rfl (by decide +kernel) (fun _ _ _ h => h) (by first | (intro x hx; (repeat (first | exact hx | apply mS)); done) | ((repeat (refine List.forall_mem_cons.2 ⟨(by (repeat (first | assumption | (with_reducible exact mZ) | apply mS)); first | done | fail), ?_⟩)); intro x hx; first | (cases hx; done) | ((repeat (first | exact hx | apply mS)); done))) (stab_pure (by rfl) (fun w => (by go_simp; try with_reducible rfl))) ?_; simp only [Act.put, List.setIfInBounds_toArray, List.set_cons_zero, List.set_cons_succ]; refine RS_take (i := 7) rfl (by decide +kernel) (fun _ _ _ h => h) (by first | (intro x hx; (repeat (first | exact hx | apply mS)); done) | ((repeat (refine List.forall_mem_cons.2 ⟨(by (repeat (first | assumption | (with_reducible exact mZ) | apply mS)); first | done | fail), ?_⟩)); intro x hx; first | (cases hx; done) | ((repeat (first | exact hx | apply mS)); done))) (stab_call (by rfl) (fun w => (by go_simp; try with_reducible rfl)) (fun L w hL hM => (HZ.out _ w hM (hL _ (by (repeat (first | assumption | (with_reducible exact mZ) | apply mS)); first | done | fail)) (hL _ (by (repeat (first | assumption | (with_reducible exact mZ) | apply mS)); first | done | fail))))) ?_; simp only [Act.put, List.setIfInBounds_toArray, List.set_cons_zero, List.set_cons_succ]; refine RS_take (i := 8) rfl (by decide +kernel) (fun _ _ _ h => h) (by first | (intro x hx; (repeat (first | exact hx | apply mS)); done) | ((repeat (refine List.forall_mem_cons.2 ⟨(by (repeat (first | assumption | (with_reducible exact mZ) | apply mS)); first | done | fail), ?_⟩)); intro x hx; first | (cases hx; done) | ((repeat (first | exact hx | apply mS)); done))) (stab_pure (by rfl) (fun w => (by go_simp; try with_reducible rfl))) ?_; simp only [Act.put, List.setIfInBounds_toArray, List.set_cons_zero, List.set_cons_succ]; refine RS_take (i := 9) rfl (by decide +kernel) (fun _ _ _ h => h) (by first | (intro x hx; (repeat (first | exact hx | apply mS)); done) | ((repeat (refine List.forall_mem_cons.2 ⟨(by (repeat (first | assumption | (with_reducible exact mZ) | apply mS)); first | done | fail), ?_⟩)); intro x hx; first | (cases hx; done) | ((repeat (first | exact hx | apply mS)); done))) (stab_pure (by rfl) (fun w => (by go_simp; try with_reducible rfl))) ?_; simp only [Act.put, List.setIfInBounds_toArray, List.set_cons_zero, List.set_cons_succ]; refine RS_take (i := 10) rfl (by decide +kernel) (fun _ _ _ h => h) (by first | (intro x hx; (repeat (first | exact hx | apply mS)); done) | ((repeat (refine List.forall_mem_cons.2 ⟨(by (repeat (first | assumption | (with_reducible exact mZ) | apply mS)); first | done | fail), ?_⟩)); intro x hx; first | (cases hx; done) | ((repeat (first | exact hx | apply mS)); done))) (stab_pure (by rfl) (fun w => (by go_simp; try with_reducible rfl))) ?_; simp only [Act.put, List.setIfInBounds_toArray, List.set_cons_zero, List.set_cons_succ]; refine RS_take (i := 11) rfl (by decide +kernel) (fun _ _ _ h => h) (by first | (intro x hx; (repeat (first | exact hx | apply mS)); done) | ((repeat (refine List.forall_mem_cons.2 ⟨(by (repeat (first | assumption | (with_reducible exact mZ) | apply mS)); first | done | fail), ?_⟩)); intro x hx; first | (cases hx; done) | ((repeat (first | exact hx | apply mS)); done))) (stab_pure (by rfl) (fun w => (by go_simp; try with_reducible rfl))) ?_; simp only [Act.put, List.setIfInBounds_toArray, List.set_cons_zero, List.set_cons_succ]; refine RS_take (i := 12) rfl (by decide +kernel) (fun _ _ _ h => h) (by first | (intro x hx; (repeat (first | exact hx | apply mS)); done) | ((repeat (refine List.forall_mem_cons.2 ⟨(by (repeat (first | assumption | (with_reducible exact mZ) | apply mS)); first | done | fail), ?_⟩)); intro x hx; first | (cases hx; done) | ((repeat (first | exact hx | apply mS)); done))) (stab_read (by rfl) (fun L w hL hM => (by first | exact ex_load1 hM rfl rfl (hL _ (by (repeat (first | assumption | (with_reducible exact mZ) | apply mS)); first | done | fail)) rfl (by kernel_rfl) | exact ex_rowload rfl rfl (hM.row (hL _ (by (repeat (first | assumption | (with_reducible exact mZ) | apply mS)); first | done | fail))) (by assumption) (by kernel_rfl) | exact ex_rowload0 rfl rfl (hM.row (hL _ (by (repeat (first | assumption | (with_reducible exact mZ) | apply mS)); first | done | fail))) (by assumption) (by kernel_rfl)))) ?_; simp only [Act.put, List.setIfInBounds_toArray, List.set_cons_zero, List.set_cons_succ]; refine RS_take (i := 13) rfl (by decide +kernel) (fun _ _ _ h => h) (by first | (intro x hx; (repeat (first | exact hx | apply mS)); done) | ((repeat (refine List.forall_mem_cons.2 ⟨(by (repeat (first | assumption | (with_reducible exact mZ) | apply mS)); first | done | fail), ?_⟩)); intro x hx; first | (cases hx; done) | ((repeat (first | exact hx | apply mS)); done))) (stab_pure (by rfl) (fun w => (by go_simp; try with_reducible rfl))) ?_; simp only [Act.put, List.setIfInBounds_toArray, List.set_cons_zero, List.set_cons_succ]; refine RS_take (i := 14) rfl (by decide +kernel) (fun _ _ _ h => h) (by first | (intro x hx; (repeat (first | exact hx | apply mS)); done) | ((repeat (refine List.forall_mem_cons.2 ⟨(by (repeat (first | assumption | (with_reducible exact mZ) | apply mS)); first | done | fail), ?_⟩)); intro x hx; first | (cases hx; done) | ((repeat (first | exact hx | apply mS)); done))) (stab_pure (by rfl) (fun w => (by go_simp; try with_reducible rfl))) ?_; simp only [Act.put, List.setIfInBounds_toArray, List.set_cons_zero, List.set_cons_succ]; refine RS_done (by decide +kernel) (.inl (by first | (intro x hx; (repeat (first | exact hx | apply mS)); done) | ((repeat (refine List.forall_mem_cons.2 ⟨(by (repeat (first | assumption | (with_reducible exact mZ) | apply mS)); first | done | fail), ?_⟩)); intro x hx; first | (cases hx; done) | ((repeat (first | exact hx | apply mS)); done)))) (fun w hM => ?_))
  go_wp2_with fail
  go_ret
  refine ⟨?_, hM.sel (by repeat (first | (with_reducible exact Sel.refl) | (with_reducible exact Take.head) | (with_reducible apply Take.tail) | (with_reducible apply Sel.cons) | (with_reducible apply Sel.drop)))⟩
  rw [← HSUB.out]
  have hw : IntKind.i64.wrap (IntKind.i64.wrap ((z : Int) + h) - e) = (z : Int) + h - e := by rw [IntKind.wrap_i64, IntKind.wrap_i64]; omega
  exact congrArg (fun x => Ending.returned (Value.int .i64 x)) hw
set_option maxRecDepth 100000 in
theorem turn_b (w : World) (hM : Star L w) (hb : bkc b a t p e m ∈ L) : Calls Try.prog 15 #[bptr b] w fun r w' => r = .returned (.int .i64 (t : Int)) ∧ Star L w' := by
  go_enter Try.func15, Try.ntmps15
  go_wp2_with (first | (first | ((with_reducible refine at_load' ?_); (refine BigFrame.wpList_want (by rfl) fun K hK => ws_load1 hM rfl rfl (by (repeat (first | assumption | (with_reducible exact mZ) | apply mS)); first | done | fail) (by first | rfl | assumption) (by decide +kernel) (hK _ _ ?_); clear hK K)) | fail))
  go_ret
  exact ⟨rfl, hM⟩
set_option maxRecDepth 100000 in
/-- The turn of a head. -/
theorem parse_ok {t : Nat} (h1 : 1 ≤ t) (ht : t ≤ 1000000) (w : World) (hM : Star L w) : Calls Try.prog 43 #[.string ⟨(pad64 (headT t)).toArray⟩] w fun r w' => r = .returned (.int .i64 (t : Int)) ∧ Star L w' := by
  have hl := headT_len t
  have hpad := pad64_short (s := headT t) (by omega)
  have hpl := pad64_len (headT t)
  have hn := headT_num t (List.replicate (64 - (headT t).length) 0) ht
  rw [← hpad] at hn
  have hb1 : mBytes (pad64 (headT t)) 0 32 = ((pad64 (headT t)).take 32, (pad64 (headT t)).drop 32, 0) := by
    unfold mBytes
    rw [if_pos rfl, if_pos ⟨by omega, by rw [hpl]; omega⟩]
    rfl
  have hq : decide ((pad64 (headT t)).take (headT t).length = headT t) = true := by
    rw [decide_eq_true_iff, hpad, List.take_left']
    rfl
  have HP := Lib.hid (hasP (pad64 (headT t)) (headT t) (by omega) (by omega) true hq)
  have HH : Hid (∀ (L : List SProp) (w : World), Star L w → Calls Try.prog 76 #[.int .i64 (t : Int)] w fun r w' => r = .returned (.string ⟨(headT t).toArray⟩) ∧ Star L w') := fun L w hM => head_b t ht w hM
  generalize headT t = hd at hl hn hb1 HP HH hpl hpad hq ⊢
  generalize pad64 hd = s at hn hb1 HP hpl ⊢
  generalize List.replicate (64 - hd.length) 0 = z at hn
  generalize s.take 32 = x at hb1
  generalize s.drop 32 = y at hb1 hn
  have B1 := Lib.hid hb1
  have N1 := Lib.hid hn
  clear hb1 hn hq hpad
  go_enter Try.func43, Try.ntmps43
  go_wp2_with (first | (go_at_call 71; have hM0 := hM; clear hM; (first | (with_reducible refine (sOpen s hM0).mono ?_) | fail); clear hM0; rintro _ w ⟨g, rfl, hM⟩) | (go_at_call 72; have hM0 := hM; clear hM; (first | (with_reducible refine (sBytes B1.out hM0 (by (repeat (first | (with_reducible exact Take.head) | apply Take.tail)); first | done | fail)).mono ?_) | fail); clear hM0; rintro _ w ⟨rfl, hM⟩) | (go_at_call 73; have hM0 := hM; clear hM; (first | (with_reducible refine (sInt (by omega) N1.out hM0 (by (repeat (first | (with_reducible exact Take.head) | apply Take.tail)); first | done | fail)).mono ?_) | fail); clear hM0; rintro _ w ⟨rfl, hM⟩) | (go_at_call 74; have hM0 := hM; clear hM; (first | (with_reducible refine (sErr hM0 (by (repeat (first | assumption | (with_reducible exact mZ) | apply mS)); first | done | fail)).mono ?_) | fail); clear hM0; rintro _ w ⟨rfl, hM⟩) | (go_at_call 76; have hM0 := hM; clear hM; (first | (with_reducible refine (HH.out _ _ hM0).mono ?_) | fail); clear hM0; rintro _ w ⟨rfl, hM⟩) | (go_at_call 75; refine (HP.out _).mono ?_; rintro _ _ ⟨rfl, rfl⟩))
  go_ret
  exact ⟨rfl, hM.sel (by repeat (first | (with_reducible exact Sel.refl) | (with_reducible exact Take.head) | (with_reducible apply Take.tail) | (with_reducible apply Sel.cons) | (with_reducible apply Sel.drop)))⟩
set_option maxRecDepth 100000 in
theorem parse_no (w : World) (hM : Star L w) : Calls Try.prog 43 #[.string ⟨zs64.toArray⟩] w fun r w' => r = .returned (.int .i64 0) ∧ Star L w' := by
  have hn := zero_num.2.2
  have hb1 : mBytes zs64 0 32 = (zs64.take 32, zs64.drop 32, 0) := by
    unfold mBytes
    rw [if_pos rfl, if_pos ⟨by omega, by rw [zs64_len]; omega⟩]
    rfl
  generalize zs64 = s at hn hb1 ⊢
  generalize List.replicate 31 0 = z at hn
  generalize s.take 32 = x at hb1
  generalize s.drop 32 = y at hb1 hn
  have B1 := Lib.hid hb1
  have N1 := Lib.hid hn
  clear hb1 hn
  go_enter Try.func43, Try.ntmps43
  go_wp2_with (first | (go_at_call 71; have hM0 := hM; clear hM; (first | (with_reducible refine (sOpen s hM0).mono ?_) | fail); clear hM0; rintro _ w ⟨g, rfl, hM⟩) | (go_at_call 72; have hM0 := hM; clear hM; (first | (with_reducible refine (sBytes B1.out hM0 (by (repeat (first | (with_reducible exact Take.head) | apply Take.tail)); first | done | fail)).mono ?_) | fail); clear hM0; rintro _ w ⟨rfl, hM⟩) | (go_at_call 73; have hM0 := hM; clear hM; (first | (with_reducible refine (sInt (by omega) N1.out hM0 (by (repeat (first | (with_reducible exact Take.head) | apply Take.tail)); first | done | fail)).mono ?_) | fail); clear hM0; rintro _ w ⟨rfl, hM⟩) | (go_at_call 74; have hM0 := hM; clear hM; (first | (with_reducible refine (sErr hM0 (by (repeat (first | assumption | (with_reducible exact mZ) | apply mS)); first | done | fail)).mono ?_) | fail); clear hM0; rintro _ w ⟨rfl, hM⟩))
  go_ret
  exact ⟨rfl, hM.sel (by repeat (first | (with_reducible exact Sel.refl) | (with_reducible exact Take.head) | (with_reducible apply Take.tail) | (with_reducible apply Sel.cons) | (with_reducible apply Sel.drop)))⟩
end
end Go.Proofs.Ytnckgkgilnmocaa
set_option linter.unusedSimpArgs false
set_option linter.unusedVariables false
namespace Go.Proofs.Ytnckgkgilnmocaa
open Go.RowKit
attribute [local go_sem] extract_mid extract_drop bget bsize wrap64_u8 i64_u8 u64_u8 bappend
theorem results_row2B {P : Program} {fn : Func} {p u v : Tmp} {ty : TypeId} (h : fn.results = #[.cell p ty, .tmp u, .tmp v]) (tmps : Array Value) (w : World) (g : Nat) (t : TypeId) (cs : Array Value) (n : Nat) (x y : Value) (hp : tmps.getD p undef = .pointer (some ⟨g, 0, none⟩)) (hx : tmps.getD u undef = x) (hy : tmps.getD v undef = y) (hg : Blk w g t cs) (hn : cs.size = n) (hr : rowTy P ty n = true) :
    (results fn tmps).run P w = .ok (.tuple #[.agg cs, x, y]) w := by
  obtain ⟨⟨d, h1, h2⟩, h3⟩ := rowTy_und hr
  have hl := run_loadVar_row w g t ty cs (0, 0) d hg h1 (by cases d <;> simp_all) (by rw [h3, hn])
  simp only [Array.getD_eq_getD_getElem?] at hp hx hy
  unfold results
  simp [h, hp, hx, hy, asAddr, hl, Sem.run_bind, Sem.run_pure]
abbrev rcC (k : Nat) (d : List UInt8) (at_ : Nat) : Array Value := #[.int .i64 (k : Int), .string ⟨d.toArray⟩, .int .i64 (at_ : Int)]
abbrev rc0 : Array Value := #[.int .i64 0, .string ⟨#[]⟩, .int .i64 0]
theorem info_rc : (Try.prog.info? 38).map (fun i => i.zero) = some (some (.agg rc0)) := by kernel_rfl
theorem readT {L R : List SProp} {a : DA} {D : Dsk} (at_ n : Nat) (h : D.ok) (hf : D.armed = false) (hi : at_ + n ≤ D.sure.length) {s : List UInt8} (hs : rd D.nw at_ n = s) (w : World) (hM : Star L w) (hx : Take (diskE a D) L R) :
    Calls Try.prog 42 #[dptr a, .int .i64 (at_ : Int), .int .i64 (n : Int)] w fun r w' => ∃ D', Hid (RPost D D') ∧ r = .returned (.tuple #[.string ⟨s.toArray⟩, .int .i64 0]) ∧ Star (diskE a D' :: R) w' := by
  subst hs
  exact read_u (x := at_) (y := n) at_ n rfl rfl h hi hf w (hM.take hx)
section
variable {F : List SProp} {b t e : Nat} {a : DA} {p : List UInt8} {m : Value} {D : Dsk}
set_option maxRecDepth 100000 in
set_option maxHeartbeats 8000000 in
/-- There is none. -/
theorem look_no {h at_ : Nat} (q : List UInt8) (hok : D.ok) (H : HalfOk D h) (hf : D.armed = false) (ht : t ≤ 1000000) (ha : at_ ≤ frT h t + h) (hz : at_ = frT h t + h ∨ D.nw at_ = zs64) (w : World) (hM : Star (diskE a D :: F) w) (hb : bkc b a t p e m ∈ F) :
    Calls Try.prog 78 #[bptr b, .int .i64 (at_ : Int), .string ⟨q.toArray⟩] w fun r w' => ∃ D', Hid (RPost D D') ∧ r = .returned (.tuple #[.agg rc0, .string ⟨#[]⟩, .int .i64 3]) ∧ Star (diskE a D' :: F) w' := by
  have HHF : Hid (∀ (L : List SProp) (w : World), Star L w → bkc b a t p e m ∈ L → diskE a D ∈ L → Calls Try.prog 41 #[bptr b] w fun r w' => r = .returned (.int .i64 (h : Int)) ∧ Star L w') := fun L w hM hb hd => halfT H w hM hb hd
  have HFR : Hid (∀ (L : List SProp) (w : World), Star L w → bkc b a t p e m ∈ L → diskE a D ∈ L → Calls Try.prog 47 #[bptr b, .int .i64 (t : Int)] w fun r w' => r = .returned (.int .i64 (frT h t : Int)) ∧ Star L w') := fun L w hM hb hd => from_b H ht w hM hb hd
  have h3 := H.le
  have h4 := frT_le h t
  generalize frT h t = z at HFR ha hz h4
  have h5 : h ≤ 40000 := h3.2.2
  by_cases hend : at_ = z + h
  · subst hend
    clear hz H h3
    go_enter Try.func78, Try.ntmps78
    go_wp2_with (first | (first | ((with_reducible refine at_alloc' ?_); (have hM0 := hM; clear hM; refine BigFrame.wpList_want (by rfl) fun K hK => ws_alloc hM0 (t := 38) rfl rc0 info_rc (fun g6 w hM => hK _ _ ?_); clear hM0 hK K)) | fail) | (first | ((with_reducible refine at_load' ?_); (refine BigFrame.wpList_want (by rfl) fun K hK => ws_load1 hM rfl rfl (by (repeat (first | assumption | (with_reducible exact mZ) | apply mS)); first | done | fail) (by first | rfl | assumption) (by decide +kernel) (hK _ _ ?_); clear hK K)) | fail) | (go_at_call 47; have hM0 := hM; clear hM; (first | (with_reducible refine (HFR.out _ _ hM0 (by (repeat (first | assumption | (with_reducible exact mZ) | apply mS)); first | done | fail) (by (repeat (first | assumption | (with_reducible exact mZ) | apply mS)); first | done | fail)).mono ?_) | fail); clear hM0; rintro _ w ⟨rfl, hM⟩) | (go_at_call 41; have hM0 := hM; clear hM; (first | (with_reducible refine (HHF.out _ _ hM0 (by (repeat (first | assumption | (with_reducible exact mZ) | apply mS)); first | done | fail) (by (repeat (first | assumption | (with_reducible exact mZ) | apply mS)); first | done | fail)).mono ?_) | fail); clear hM0; rintro _ w ⟨rfl, hM⟩) | (first | ((with_reducible refine at_store' ?_); (have hM0 := hM; clear hM; refine BigFrame.wpList_want (by rfl) fun K hK => ws_store hM0 rfl rfl rfl (by (repeat (first | (with_reducible exact Take.head) | apply Take.tail)); first | done | fail) (n := 3) (by rfl) (by rfl) (by kernel_rfl) (by simp [Value.oneCell']) (fun w hM => hK _ _ ?_); clear hM0 hK K)) | fail))
    refine bodyPost_ret (results_row2B (P := Try.prog) (ty := 38) rfl _ _ g6 38 rc0 3 _ _ rfl rfl rfl (hM.blk (by (repeat (first | assumption | (with_reducible exact mZ) | apply mS)); first | done | fail)) rfl (by decide +kernel)) rfl ?_
    exact ⟨D, ⟨hok, rfl, rfl, fun _ => rfl, fun _ => rfl⟩, rfl, hM.sel (by repeat (first | (with_reducible exact Sel.refl) | (with_reducible exact Take.head) | (with_reducible apply Take.tail) | (with_reducible apply Sel.cons) | (with_reducible apply Sel.drop)))⟩
  · have hz2 : D.nw at_ = zs64 := hz.resolve_left hend
    have hlt : at_ < z + h := by omega
    have HRD : Hid (∀ (L R : List SProp) (w : World), Star L w → Take (diskE a D) L R → Calls Try.prog 42 #[dptr a, .int .i64 (at_ : Int), .int .i64 1] w fun r w' => ∃ D', Hid (RPost D D') ∧ r = .returned (.tuple #[.string ⟨zs64.toArray⟩, .int .i64 0]) ∧ Star (diskE a D' :: R) w') := fun L R w hM hx =>
      readT at_ 1 hok hf (by omega) (by rw [← rdD_rd, rdD_one, hz2]) w hM hx
    have hn := zero_num
    have hzl : zs64.length = 64 := zs64_len
    generalize zs64 = s at HRD hn hzl
    generalize hy : s.drop 32 = y at hn
    have N1 := Lib.hid hn.1
    have N2 := Lib.hid hn.2.1
    have HY : Hid ((s.take 64).drop 32 = y) := by show _ = _; rw [List.take_of_length_le (by omega), hy]
    clear hz hz2 H h3 hn hend hy
    go_enter Try.func78, Try.ntmps78
    go_wp2_with (first | (first | ((with_reducible refine at_alloc' ?_); (have hM0 := hM; clear hM; refine BigFrame.wpList_want (by rfl) fun K hK => ws_alloc hM0 (t := 38) rfl rc0 info_rc (fun g6 w hM => hK _ _ ?_); clear hM0 hK K)) | fail) | (first | ((with_reducible refine at_load' ?_); (refine BigFrame.wpList_want (by rfl) fun K hK => ws_load1 hM rfl rfl (by (repeat (first | assumption | (with_reducible exact mZ) | apply mS)); first | done | fail) (by first | rfl | assumption) (by decide +kernel) (hK _ _ ?_); clear hK K)) | fail) | (go_at_call 47; have hM0 := hM; clear hM; (first | (with_reducible refine (HFR.out _ _ hM0 (by (repeat (first | assumption | (with_reducible exact mZ) | apply mS)); first | done | fail) (by (repeat (first | assumption | (with_reducible exact mZ) | apply mS)); first | done | fail)).mono ?_) | fail); clear hM0; rintro _ w ⟨rfl, hM⟩) | (go_at_call 41; have hM0 := hM; clear hM; (first | (with_reducible refine (HHF.out _ _ hM0 (by (repeat (first | assumption | (with_reducible exact mZ) | apply mS)); first | done | fail) (by (repeat (first | assumption | (with_reducible exact mZ) | apply mS)); first | done | fail)).mono ?_) | fail); clear hM0; rintro _ w ⟨rfl, hM⟩) | (first | ((with_reducible refine at_store' ?_); (have hM0 := hM; clear hM; refine BigFrame.wpList_want (by rfl) fun K hK => ws_store hM0 rfl rfl rfl (by (repeat (first | (with_reducible exact Take.head) | apply Take.tail)); first | done | fail) (n := 3) (by rfl) (by rfl) (by kernel_rfl) (by simp [Value.oneCell']) (fun w hM => hK _ _ ?_); clear hM0 hK K)) | fail) | (go_at_call 42; have hM0 := hM; clear hM; (first | (with_reducible refine (HRD.out _ _ _ hM0 (by (repeat (first | (with_reducible exact Take.head) | apply Take.tail)); first | done | fail)).mono ?_) | fail); clear hM0; rintro _ w ⟨D1, h1, rfl, hM⟩) | ((go_at_call 71; have hM0 := hM; clear hM; (first | (with_reducible refine (sOpen ((s.take 64).drop 32) hM0).mono ?_) | fail); clear hM0; rintro _ w ⟨gb, rfl, hM⟩); rw [HY.out] at hM) | (go_at_call 73; have hM0 := hM; clear hM; (first | (with_reducible refine (sInt (by omega) N1.out hM0 (by (repeat (first | (with_reducible exact Take.head) | apply Take.tail)); first | done | fail)).mono ?_) | fail); clear hM0; rintro _ w ⟨rfl, hM⟩) | (go_at_call 73; have hM0 := hM; clear hM; (first | (with_reducible refine (sInt (by omega) N2.out hM0 (by (repeat (first | (with_reducible exact Take.head) | apply Take.tail)); first | done | fail)).mono ?_) | fail); clear hM0; rintro _ w ⟨rfl, hM⟩) | (go_at_call 74; have hM0 := hM; clear hM; (first | (with_reducible refine (sErr hM0 (by (repeat (first | assumption | (with_reducible exact mZ) | apply mS)); first | done | fail)).mono ?_) | fail); clear hM0; rintro _ w ⟨rfl, hM⟩))
    refine bodyPost_ret (results_row2B (P := Try.prog) (ty := 38) rfl _ _ g6 38 rc0 3 _ _ rfl rfl rfl (hM.blk (by (repeat (first | assumption | (with_reducible exact mZ) | apply mS)); first | done | fail)) rfl (by decide +kernel)) rfl ?_
    exact ⟨D1, h1, rfl, hM.sel (by repeat (first | (with_reducible exact Sel.refl) | (with_reducible exact Take.head) | (with_reducible apply Take.tail) | (with_reducible apply Sel.cons) | (with_reducible apply Sel.drop)))⟩
set_option maxRecDepth 100000 in
set_option maxHeartbeats 8000000 in
/-- The record that lies there. -/
theorem look_ok {h at_ : Nat} {q : List UInt8} {r : Rc} {z0 : List UInt8} (hg : rcGood r) (hq : q.length = 32) (hok : D.ok) (H : HalfOk D h) (hf : D.armed = false) (ht : t ≤ 1000000) (ha : at_ + rcost r ≤ frT h t + h) (hz : rd D.nw at_ (rcost r) = rtxt q r ++ z0) (w : World) (hM : Star (diskE a D :: F) w) (hb : bkc b a t p e m ∈ F) :
    Calls Try.prog 78 #[bptr b, .int .i64 (at_ : Int), .string ⟨q.toArray⟩] w fun e w' => ∃ D', Hid (RPost D D') ∧ e = .returned (.tuple #[.agg (rcC r.1 r.2 at_), .string ⟨(rsum q r).toArray⟩, .int .i64 0]) ∧ Star (diskE a D' :: F) w' := by
  have HHF : Hid (∀ (L : List SProp) (w : World), Star L w → bkc b a t p e m ∈ L → diskE a D ∈ L → Calls Try.prog 41 #[bptr b] w fun r w' => r = .returned (.int .i64 (h : Int)) ∧ Star L w') := fun L w hM hb hd => halfT H w hM hb hd
  have HFR : Hid (∀ (L : List SProp) (w : World), Star L w → bkc b a t p e m ∈ L → diskE a D ∈ L → Calls Try.prog 47 #[bptr b, .int .i64 (t : Int)] w fun r w' => r = .returned (.int .i64 (frT h t : Int)) ∧ Star L w') := fun L w hM hb hd => from_b H ht w hM hb hd
  have h3 := H.le
  have h4 := frT_le h t
  generalize frT h t = z at HFR ha h4
  have h5 : h ≤ 40000 := h3.2.2
  have hc1 := bcost_pos r.2.length
  obtain ⟨k, d⟩ := r
  have hk1 : 1 ≤ k := hg.1
  have hk2 : k ≤ 200 := hg.2.1
  have hd : d.length ≤ 4096 := hg.2.2
  change at_ + bcost d.length ≤ z + h at ha
  change rd D.nw at_ (bcost d.length) = _ at hz
  change 1 ≤ bcost d.length at hc1
  have hrl := rdD_len hok at_ (bcost d.length) (by omega)
  rw [rdD_rd, hz] at hrl
  have hfl : (rtxt q (k, d) ++ z0).take 64 = D.nw at_ := by
    have := rdD_at hok at_ (bcost d.length) 0 (by omega) (by omega)
    rw [rdD_rd, hz] at this
    simpa using this
  obtain ⟨u, hn1, v, hn2, hvl⟩ := first_nums hg q z0 (by rw [hrl]; omega)
  rw [hfl] at hn1
  have hdat := rtxt_data hg q z0
  have hql := nlen_small (n := d.length) (by omega)
  have hcst : 34 + nlen d.length + d.length ≤ 64 * bcost d.length := by unfold bcost; omega
  have HR1 : Hid (∀ (L R : List SProp) (w : World), Star L w → Take (diskE a D) L R → Calls Try.prog 42 #[dptr a, .int .i64 (at_ : Int), .int .i64 1] w fun r w' => ∃ D', Hid (RPost D D') ∧ r = .returned (.tuple #[.string ⟨(D.nw at_).toArray⟩, .int .i64 0]) ∧ Star (diskE a D' :: R) w') := fun L R w hM hx =>
    readT at_ 1 hok hf (by omega) (by rw [← rdD_rd, rdD_one]) w hM hx
  have HR2 : Hid (∀ (D1 : Dsk), Hid (RPost D D1) → ∀ (L R : List SProp) (w : World), Star L w → Take (diskE a D1) L R → Calls Try.prog 42 #[dptr a, .int .i64 (at_ : Int), .int .i64 (bcost d.length : Int)] w fun r w' => ∃ D', Hid (RPost D D') ∧ r = .returned (.tuple #[.string ⟨(rtxt q (k, d) ++ z0).toArray⟩, .int .i64 0]) ∧ Star (diskE a D' :: R) w') := fun D1 h1 L R w hM hx => by
    have h1 := h1.out
    refine (readT at_ (bcost d.length) h1.ok (h1.armed.trans hf) (by rw [h1.sure]; omega) (s := rtxt q (k, d) ++ z0) (by rw [← hz]; exact rd_congr fun i _ _ => h1.nw i) w hM hx).mono ?_
    rintro r w' ⟨D', h2, e, hM⟩
    have h2 := h2.out
    exact ⟨D', ⟨h2.ok, h2.sure.trans h1.sure, h2.armed.trans h1.armed, fun i => (h2.nw i).trans (h1.nw i), fun i => (h2.l i).trans (h1.l i)⟩, e, hM⟩
  have HC : Hid (∀ (L : List SProp) (w : World), Star L w → Calls Try.prog 21 #[.int .i64 (d.length : Int)] w fun r w' => r = .returned (.int .i64 (bcost d.length : Nat)) ∧ Star L w') := fun L w hM => cost_b d.length (by omega) w hM
  have HSP : Hid (∀ (L : List SProp) (w : World), Star L w → Calls Try.prog 37 #[.string ⟨q.toArray⟩, .int .i64 (k : Int), .string ⟨d.toArray⟩] w fun r w' => r = .returned (.tuple #[.string ⟨(rtxt q (k, d)).toArray⟩, .string ⟨(rsum q (k, d)).toArray⟩]) ∧ Star L w') := fun L w hM => spell_b hk2 hq hd w hM
  have htl : (rtxt q (k, d)).length = 34 + nlen d.length + d.length := rtxt_len hg q
  have HP := Lib.hid (hasP (rtxt q (k, d) ++ z0) (rtxt q (k, d)) (by rw [hrl]; have := bcost_le hd; show 64 * bcost d.length ≤ _; omega) (by rw [List.length_append]; omega) true (by rw [decide_eq_true_iff, List.take_left']; rfl))
  have hfl64 : (D.nw at_).length = 64 := nw_len hok (by omega)
  have hcl := bcost_le hd
  simp only at hn1 hn2 hvl hdat ⊢
  generalize rsum q (k, d) = sm at HSP ⊢
  generalize rtxt q (k, d) = tx at HSP HP HR2 hdat hrl
  generalize tx ++ z0 = all at HP HR2 hdat hrl
  generalize D.nw at_ = s at HR1 hn1 hfl64
  generalize bcost d.length = c at HC HR2 ha hcst hrl hc1 hcl
  obtain ⟨vl, hvv⟩ : ∃ vl, v.length = vl := ⟨_, rfl⟩
  obtain ⟨dl, hdl⟩ : ∃ dl, d.length = dl := ⟨_, rfl⟩
  rw [hvv] at hvl
  rw [hdl] at hvl hdat hql hcst hd hn2 HC
  generalize nlen dl = nl at hvl hdat hql hcst
  obtain ⟨f0, hf0⟩ : ∃ f0, f0 = 34 + nl := ⟨_, rfl⟩
  rw [← hf0] at hdat
  obtain ⟨f1, hf1⟩ : ∃ f1, f1 = f0 + dl := ⟨_, rfl⟩
  have hsl : (all.take f1).drop f0 = d := by rw [List.drop_take, hf1, Nat.add_sub_cancel_left]; exact hdat
  have g1 : 64 - (vl : Int) = (f0 : Int) := by omega
  have g2 : (f0 : Int) + dl = (f1 : Int) := by omega
  have g3 : (at_ : Int) < z + h := by omega
  have g4 : (at_ : Int) + c ≤ z + h := by omega
  have g5 : f1 ≤ all.length := by omega
  have g6 : f0 ≤ f1 := by omega
  have g7 : f0 ≤ 37 := by omega
  have g8 : f1 ≤ 5000 := by omega
  have g9 : vl ≤ 30 := by omega
  obtain ⟨y, hy⟩ : ∃ y, (s.take 64).drop 32 = y := ⟨_, rfl⟩
  have hy2 : s.drop 32 = y := by rw [← hy, List.take_of_length_le (by omega)]
  rw [hy2] at hn1
  have HY := Lib.hid hy
  have N1 := Lib.hid hn1
  have N2 := Lib.hid hn2
  have HSL := Lib.hid hsl
  have HDL := Lib.hid hdl
  clear hvl hf0 hf1 hcst hok H hz hy hy2 hn1 hn2 hsl hdl hdat h3 htl hfl hg hf hrl
  have tok1 : True := trivial
  go_enter Try.func78, Try.ntmps78
  go_wp2_with (first | (first | ((with_reducible refine at_alloc' ?_); (have hM0 := hM; clear hM; refine BigFrame.wpList_want (by rfl) fun K hK => ws_alloc hM0 (t := 38) rfl rc0 info_rc (fun gr w hM => hK _ _ ?_); clear hM0 hK K)) | fail) | (first | ((with_reducible refine at_load' ?_); (refine BigFrame.wpList_want (by rfl) fun K hK => ws_load1 hM rfl rfl (by (repeat (first | assumption | (with_reducible exact mZ) | apply mS)); first | done | fail) (by first | rfl | assumption) (by decide +kernel) (hK _ _ ?_); clear hK K)) | fail) | (go_at_call 47; have hM0 := hM; clear hM; (first | (with_reducible refine (HFR.out _ _ hM0 (by (repeat (first | assumption | (with_reducible exact mZ) | apply mS)); first | done | fail) (by (repeat (first | assumption | (with_reducible exact mZ) | apply mS)); first | done | fail)).mono ?_) | fail); clear hM0; rintro _ w ⟨rfl, hM⟩) | (go_at_call 41; have hM0 := hM; clear hM; (first | (with_reducible refine (HHF.out _ _ hM0 (by (repeat (first | assumption | (with_reducible exact mZ) | apply mS)); first | done | fail) (by (repeat (first | assumption | (with_reducible exact mZ) | apply mS)); first | done | fail)).mono ?_) | fail); clear hM0; rintro _ w ⟨rfl, hM⟩) | (go_at_call 42; have hM0 := hM; clear hM; (first | (with_reducible refine (HR1.out _ _ _ hM0 (by (repeat (first | (with_reducible exact Take.head) | apply Take.tail)); first | done | fail)).mono ?_) | fail); clear hM0; rintro _ w ⟨D1, h1, rfl, hM⟩) | ((go_at_call 71; have hM0 := hM; clear hM; (first | (with_reducible refine (sOpen ((s.take 64).drop 32) hM0).mono ?_) | fail); clear hM0; rintro _ w ⟨gb, rfl, hM⟩); rw [HY.out] at hM) | (go_at_call 73; have hM0 := hM; clear hM; (first | (with_reducible refine (sInt (by omega) N1.out hM0 (by (repeat (first | (with_reducible exact Take.head) | apply Take.tail)); first | done | fail)).mono ?_) | fail); clear hM0; rintro _ w ⟨rfl, hM⟩) | (go_at_call 73; have hM0 := hM; clear hM; (first | (with_reducible refine (sInt (by omega) N2.out hM0 (by (repeat (first | (with_reducible exact Take.head) | apply Take.tail)); first | done | fail)).mono ?_) | fail); clear hM0; rintro _ w ⟨rfl, hM⟩) | (go_at_call 74; have hM0 := hM; clear hM; (first | (with_reducible refine (sErr hM0 (by (repeat (first | assumption | (with_reducible exact mZ) | apply mS)); first | done | fail)).mono ?_) | fail); clear hM0; rintro _ w ⟨rfl, hM⟩) | (go_at_call 21; have hM0 := hM; clear hM; (first | (with_reducible refine (HC.out _ _ hM0).mono ?_) | fail); clear hM0; rintro _ w ⟨rfl, hM⟩))
  (refine region_RS ([bkc b a t p e m]) [] (by kernel_rfl) hM ?_; clear hM; change RS _ _ _ _ _ _ 13 (Array.replicate 13 false) _ _; refine RS_take (i := 0) rfl (by decide +kernel) (fun _ _ _ h => h) (by first | (intro x hx; (repeat (first | exact hx | apply mS)); done) | ((repeat (refine List.forall_mem_cons.2 ⟨(by (repeat (first | assumption | (with_reducible exact mZ) | apply mS)); first | done | fail), ?_⟩)); intro x hx; first | (cases hx; done) | ((repeat (first | exact hx | apply mS)); done))) (stab_pure (by rfl) (fun w => (by go_simp; try with_reducible rfl))) ?_; simp only [Act.put, List.setIfInBounds_toArray, List.set_cons_zero, List.set_cons_succ]; refine RS_take (i := 1) rfl (by decide +kernel) (fun _ _ _ h => h) (by first | (intro x hx; (repeat (first | exact hx | apply mS)); done) | ((repeat (refine List.forall_mem_cons.2 ⟨(by (repeat (first | assumption | (with_reducible exact mZ) | apply mS)); first | done | fail), ?_⟩)); intro x hx; first | (cases hx; done) | ((repeat (first | exact hx | apply mS)); done))) (stab_pure (by rfl) (fun w => (by go_simp; try with_reducible rfl))) ?_; simp only [Act.put, List.setIfInBounds_toArray, List.set_cons_zero, List.set_cons_succ]; refine RS_take (i := 2) rfl (by decide +kernel) (fun _ _ _ h => h) (by first | (intro x hx; (repeat (first | exact hx | apply mS)); done) | ((repeat (refine List.forall_mem_cons.2 ⟨(by (repeat (first | assumption | (with_reducible exact mZ) | apply mS)); first | done | fail), ?_⟩)); intro x hx; first | (cases hx; done) | ((repeat (first | exact hx | apply mS)); done))) (stab_pure (by rfl) (fun w => (by go_simp; try with_reducible rfl))) ?_; simp only [Act.put, List.setIfInBounds_toArray, List.set_cons_zero, List.set_cons_succ]; refine RS_take (i := 3) rfl (by decide +kernel) (fun _ _ _ h => h) (by first | (intro x hx; (repeat (first | exact hx | apply mS)); done) | ((repeat (refine List.forall_mem_cons.2 ⟨(by (repeat (first | assumption | (with_reducible exact mZ) | apply mS)); first | done | fail), ?_⟩)); intro x hx; first | (cases hx; done) | ((repeat (first | exact hx | apply mS)); done))) (stab_read (by rfl) (fun L w hL hM => (by first | exact ex_load1 hM rfl rfl (hL _ (by (repeat (first | assumption | (with_reducible exact mZ) | apply mS)); first | done | fail)) rfl (by kernel_rfl) | exact ex_rowload rfl rfl (hM.row (hL _ (by (repeat (first | assumption | (with_reducible exact mZ) | apply mS)); first | done | fail))) (by assumption) (by kernel_rfl) | exact ex_rowload0 rfl rfl (hM.row (hL _ (by (repeat (first | assumption | (with_reducible exact mZ) | apply mS)); first | done | fail))) (by assumption) (by kernel_rfl)))) ?_; simp only [Act.put, List.setIfInBounds_toArray, List.set_cons_zero, List.set_cons_succ]; refine RS_take (i := 4) rfl (by decide +kernel) (fun _ _ _ h => h) (by first | (intro x hx; (repeat (first | exact hx | apply mS)); done) | ((repeat (refine List.forall_mem_cons.2 ⟨(by (repeat (first | assumption | (with_reducible exact mZ) | apply mS)); first | done | fail), ?_⟩)); intro x hx; first | (cases hx; done) | ((repeat (first | exact hx | apply mS)); done))) (stab_pure (by rfl) (fun w => (by go_simp; try with_reducible rfl))) ?_; simp only [Act.put, List.setIfInBounds_toArray, List.set_cons_zero, List.set_cons_succ]; refine RS_take (i := 5) rfl (by decide +kernel) (fun _ _ _ h => h) (by first | (intro x hx; (repeat (first | exact hx | apply mS)); done) | ((repeat (refine List.forall_mem_cons.2 ⟨(by (repeat (first | assumption | (with_reducible exact mZ) | apply mS)); first | done | fail), ?_⟩)); intro x hx; first | (cases hx; done) | ((repeat (first | exact hx | apply mS)); done))) (stab_pure (by rfl) (fun w => (by go_simp; try with_reducible rfl))) ?_; simp only [Act.put, List.setIfInBounds_toArray, List.set_cons_zero, List.set_cons_succ]; refine RS_take (i := 6) rfl (by decide +kernel) (fun _ _ _ h => h) (by first | (intro x hx; (repeat (first | exact hx | apply mS)); done) | ((repeat (refine List.forall_mem_cons.2 ⟨(by (repeat (first | assumption | (with_reducible exact mZ) | apply mS)); first | done | fail), ?_⟩)); intro x hx; first | (cases hx; done) | ((repeat (first | exact hx | apply mS)); done))) (stab_call (by rfl) (fun w => (by go_simp; try with_reducible rfl)) (fun L w hL hM => (HC.out _ w hM))) ?_; simp only [Act.put, List.setIfInBounds_toArray, List.set_cons_zero, List.set_cons_succ]; refine RS_one (i := 7) (by decide +kernel) rfl (by rfl) (.inl (by first | (intro x hx; (repeat (first | exact hx | apply mS)); done) | ((repeat (refine List.forall_mem_cons.2 ⟨(by (repeat (first | assumption | (with_reducible exact mZ) | apply mS)); first | done | fail), ?_⟩)); intro x hx; first | (cases hx; done) | ((repeat (first | exact hx | apply mS)); done)))) (fun w K hM0 hK => ?_); refine ws_call (by go_simp; try with_reducible rfl) (HR2.out D1 h1 _ _ w hM0 (by (repeat (first | (with_reducible exact Take.head) | apply Take.tail)); first | done | fail)) (fun r w2 hR => ?_); obtain ⟨D2, h2, rfl, hM⟩ := hR; refine ⟨_, rfl, hK _ _ _ hM ?_⟩; clear hM hM0 hK K; simp only [Act.put, List.setIfInBounds_toArray, List.set_cons_zero, List.set_cons_succ]; refine RS_take (i := 8) rfl (by decide +kernel) (fun _ _ _ h => h) (by first | (intro x hx; (repeat (first | exact hx | apply mS)); done) | ((repeat (refine List.forall_mem_cons.2 ⟨(by (repeat (first | assumption | (with_reducible exact mZ) | apply mS)); first | done | fail), ?_⟩)); intro x hx; first | (cases hx; done) | ((repeat (first | exact hx | apply mS)); done))) (stab_pure (by rfl) (fun w => (by go_simp; try with_reducible rfl))) ?_; simp only [Act.put, List.setIfInBounds_toArray, List.set_cons_zero, List.set_cons_succ]; refine RS_take (i := 9) rfl (by decide +kernel) (fun _ _ _ h => h) (by first | (intro x hx; (repeat (first | exact hx | apply mS)); done) | ((repeat (refine List.forall_mem_cons.2 ⟨(by (repeat (first | assumption | (with_reducible exact mZ) | apply mS)); first | done | fail), ?_⟩)); intro x hx; first | (cases hx; done) | ((repeat (first | exact hx | apply mS)); done))) (stab_pure (by rfl) (fun w => (by go_simp; try with_reducible rfl))) ?_; simp only [Act.put, List.setIfInBounds_toArray, List.set_cons_zero, List.set_cons_succ]; refine RS_take (i := 10) rfl (by decide +kernel) (fun _ _ _ h => h) (by first | (intro x hx; (repeat (first | exact hx | apply mS)); done) | ((repeat (refine List.forall_mem_cons.2 ⟨(by (repeat (first | assumption | (with_reducible exact mZ) | apply mS)); first | done | fail), ?_⟩)); intro x hx; first | (cases hx; done) | ((repeat (first | exact hx | apply mS)); done))) (stab_pure (by rfl) (fun w => (by go_simp; try with_reducible rfl))) ?_; simp only [Act.put, List.setIfInBounds_toArray, List.set_cons_zero, List.set_cons_succ]; refine RS_take (i := 11) rfl (by decide +kernel) (fun _ _ _ h => h) (by first | (intro x hx; (repeat (first | exact hx | apply mS)); done) | ((repeat (refine List.forall_mem_cons.2 ⟨(by (repeat (first | assumption | (with_reducible exact mZ) | apply mS)); first | done | fail), ?_⟩)); intro x hx; first | (cases hx; done) | ((repeat (first | exact hx | apply mS)); done))) (stab_pure (by rfl) (fun w => (by go_simp; try with_reducible rfl))) ?_; simp only [Act.put, List.setIfInBounds_toArray, List.set_cons_zero, List.set_cons_succ]; refine RS_take (i := 12) rfl (by decide +kernel) (fun _ _ _ h => h) (by first | (intro x hx; (repeat (first | exact hx | apply mS)); done) | ((repeat (refine List.forall_mem_cons.2 ⟨(by (repeat (first | assumption | (with_reducible exact mZ) | apply mS)); first | done | fail), ?_⟩)); intro x hx; first | (cases hx; done) | ((repeat (first | exact hx | apply mS)); done))) (stab_pure (by rfl) (fun w => (by go_simp; try with_reducible rfl))) ?_; simp only [Act.put, List.setIfInBounds_toArray, List.set_cons_zero, List.set_cons_succ]; refine RS_done (by decide +kernel) (.inl (by first | (intro x hx; (repeat (first | exact hx | apply mS)); done) | ((repeat (refine List.forall_mem_cons.2 ⟨(by (repeat (first | assumption | (with_reducible exact mZ) | apply mS)); first | done | fail), ?_⟩)); intro x hx; first | (cases hx; done) | ((repeat (first | exact hx | apply mS)); done)))) (fun w hM => ?_))
  go_wp2_with (first | (go_at_call 95; have hM0 := hM; clear hM; (first | (with_reducible refine (sLeft hM0 (by (repeat (first | assumption | (with_reducible exact mZ) | apply mS)); first | done | fail)).mono ?_) | fail); clear hM0; rintro _ w ⟨rfl, hM⟩) | (refine BigFrame.wpList_want (by rfl) fun K hK => ws_of_ex (ex_slice_str (l := all) (i := f0) (j := f1) rfl Try.underlying9 rfl rfl rfl g6 g5 HSL.out) (hK _ _ ?_); clear hK K) | (go_at_call 37; have hM0 := hM; clear hM; (first | (with_reducible refine (HSP.out _ _ hM0).mono ?_) | fail); clear hM0; rintro _ w ⟨rfl, hM⟩) | (go_at_call 75; refine (HP.out _).mono ?_; rintro _ _ ⟨rfl, rfl⟩) | (first | ((with_reducible refine at_store' ?_); (have hM0 := hM; clear hM; refine BigFrame.wpList_want (by rfl) fun K hK => ws_store hM0 rfl rfl rfl (by (repeat (first | (with_reducible exact Take.head) | apply Take.tail)); first | done | fail) (n := 3) (by rfl) (by rfl) (by kernel_rfl) (by simp [Value.oneCell']) (fun w hM => hK _ _ ?_); clear hM0 hK K)) | fail))
  refine bodyPost_ret (results_row2B (P := Try.prog) (ty := 38) rfl _ _ gr 38 (rcC k d at_) 3 _ _ rfl rfl rfl (hM.blk (by (repeat (first | assumption | (with_reducible exact mZ) | apply mS)); first | done | fail)) rfl (by decide +kernel)) rfl ?_
  exact ⟨D2, h2, rfl, hM.sel (by repeat (first | (with_reducible exact Sel.refl) | (with_reducible exact Take.head) | (with_reducible apply Take.tail) | (with_reducible apply Sel.cons) | (with_reducible apply Sel.drop)))⟩
end
end Go.Proofs.Ytnckgkgilnmocaa
