/- What the laws share, part 3 (HashS, HashU, TextW, Oid, Ref1, Ref1s). No condition but those that each theorem names. -/
import Derived.Test.YtlhedbjjlomniaaW1
import Derived.Test.YtlhedbjjlomniaaW2
import Derived.Laws.BitsLemmas
import Derived.Lib.Bytealg
set_option linter.unusedSimpArgs false
set_option linter.unusedVariables false
namespace Go.Proofs.Ytlhedbjjlomniaa
open Go.RowKit
attribute [local go_sem] extract_mid extract_drop bget bsize wrap64_u8 i64_u8 u64_u8 bappend
theorem info_st : (Try.prog.info? 173).map (fun i => i.zero) = some (some (.agg (stC ⟨0, 0, 0, 0, 0, 0, 0, 0⟩ (.slice none 0 0) (.int .u64 0)))) := by kernel_rfl
theorem stC_one (s : W8) (x y : Value) (hx : x.oneCell' = true) (hy : y.oneCell' = true) : ∀ v ∈ (stC s x y).toList, v.oneCell' = true := by
  intro v hv
  simp only [stC, List.toList_toArray, List.mem_append, List.mem_cons, List.not_mem_nil, or_false] at hv
  rcases hv with h | rfl | rfl
  · exact wvs_one _ v h
  · exact hx
  · exact hy
theorem info_sum : (Try.prog.info? 22).map (fun i => i.zero) = some (some (.agg (bvs z32).toArray)) := by kernel_rfl
/-- What follows the whole blocks of l, padded. -/
def ends (l : List UInt8) : List UInt8 := rest l ++ [128] ++ List.replicate (zerosN l.length) 0
theorem ends_len (l : List UInt8) : (ends l).length = (rest l).length + 1 + zerosN l.length := by simp [ends]; omega
theorem zeros_fact (l : List UInt8) : ((rest l).length + 1 + zerosN l.length) % 64 = 56 ∧ zerosN l.length < 64 ∧ ∀ j, j < zerosN l.length → ((rest l).length + 1 + j) % 64 ≠ 56 := by
  rw [rest_len]
  unfold zerosN
  refine ⟨by omega, by omega, fun j hj => by omega⟩
theorem lenBytes_len (n : Nat) : (lenBytes n).length = 8 := by simp [lenBytes]
theorem lenBytes_get (n k : Nat) (h : k < 8) : (lenBytes n)[k]? = some (UInt8.ofNat (n * 8 / 256 ^ (7 - k))) := by simp [lenBytes, h]
theorem pad_ends (l : List UInt8) : (pad l).drop (64 * (l.length / 64)) = ends l ++ lenBytes l.length := by
  unfold pad ends rest
  simp only [List.append_assoc]
  rw [List.drop_append_of_le_length (by omega)]
  simp
theorem sha_ends (l : List UInt8) : sha l = (mixN (hst l) ((ends l ++ lenBytes l.length).length / 64) (ends l ++ lenBytes l.length)).bytes := by
  have h := zeros_fact l
  have h1 : (l.length + 8) / 64 + 1 = l.length / 64 + (ends l ++ lenBytes l.length).length / 64 := by
    rw [List.length_append, ends_len, lenBytes_len]
    rw [rest_len] at h ⊢
    unfold zerosN at *
    omega
  unfold sha
  rw [h1, mixN_add, pad_ends]
  have h2 : mixN iv0 (l.length / 64) (pad l) = hst l := by
    unfold pad
    rw [List.append_assoc, mixN_app _ _ _ _ (by omega)]
    rfl
  rw [h2]
theorem bytes_at (s : W8) (k : Nat) (h : k < 32) : ∃ x, s.list[k / 4]? = some x ∧ s.bytes[k]? = some (UInt8.ofNat (x.toNat / 2 ^ (24 - 8 * (k % 4)))) := by
  rcases (by omega : k = 0 ∨ k = 1 ∨ k = 2 ∨ k = 3 ∨ k = 4 ∨ k = 5 ∨ k = 6 ∨ k = 7 ∨ k = 8 ∨ k = 9 ∨ k = 10 ∨ k = 11 ∨ k = 12 ∨ k = 13 ∨ k = 14 ∨ k = 15 ∨ k = 16 ∨ k = 17 ∨ k = 18 ∨ k = 19 ∨ k = 20 ∨ k = 21 ∨ k = 22 ∨ k = 23 ∨ k = 24 ∨ k = 25 ∨ k = 26 ∨ k = 27 ∨ k = 28 ∨ k = 29 ∨ k = 30 ∨ k = 31) with rfl | rfl | rfl | rfl | rfl | rfl | rfl | rfl | rfl | rfl | rfl | rfl | rfl | rfl | rfl | rfl | rfl | rfl | rfl | rfl | rfl | rfl | rfl | rfl | rfl | rfl | rfl | rfl | rfl | rfl | rfl | rfl <;> (refine ⟨_, rfl, ?_⟩; first | rfl | (simp [W8.bytes, W8.list, wbytes]))
theorem stC_at (s : W8) (x y : Value) (q : Nat) (z : UInt32) (h : s.list[q]? = some z) : (stC s x y)[q]? = some (.int .u32 (w32 z)) := by
  have h1 := wvs_get _ _ _ h
  simp only [stC, List.getElem?_toArray]
  rw [List.getElem?_append_left (List.getElem?_eq_some_iff.1 h1).1]
  exact h1
theorem out_set (B : List UInt8) (k : Nat) (d : UInt8) (hB : B.length = 32) (hk : k < 32) (hd : B[k]? = some d) :
    (bvs (B.take k ++ z32.drop k)).toArray.setIfInBounds k (.int .u8 (d.toNat : Int)) = (bvs (B.take (k + 1) ++ z32.drop (k + 1))).toArray := by
  have hz : z32.drop k = 0 :: z32.drop (k + 1) := by unfold z32; rw [List.drop_eq_getElem_cons (by simp; omega), List.getElem_replicate]
  rw [hz, take_snoc_at _ _ _ hd, List.setIfInBounds_toArray]
  congr 1
  have hl : (B.take k).length = k := by simp; omega
  simp only [bvs, List.map_append, List.map_cons, List.map_nil, List.append_assoc, List.cons_append, List.nil_append]
  rw [List.set_append, if_neg (by simp; omega), List.length_map, hl, Nat.sub_self]
  rfl
theorem info_sumn : (Try.prog.info? 22).map (·.size) = some 32 := by kernel_rfl
set_option maxRecDepth 100000 in
set_option maxHeartbeats 4000000 in
theorem sum_star {F : List SProp} (g : Nat) (all : List UInt8) (hall : all.length ≤ 140737488355000) (A : Option Addr) (n c : Nat) (w : World)
    (hM : Star (tailE 5 1 A n c (bvs (rest all)) :: cellsE g 173 (shCells all A n c) :: F) w) :
    Calls Try.prog 82 #[.pointer (some ⟨g, 0, none⟩)] w fun r w' => r = .returned (.agg (bvs (sha all)).toArray) ∧ Star (tailE 5 1 A n c (bvs (rest all)) :: cellsE g 173 (shCells all A n c) :: F) w' := by
  have hrl := rest_len all
  have hnl : n = (rest all).length := by have := (hM.tail_row (by simp : tailE 5 1 A n c (bvs (rest all)) ∈ _)).len; rw [bvs_len] at this; exact this.symm
  obtain rfl := hnl
  have hr64 : (rest all).length < 64 := by rw [hrl]; omega
  unfold shCells at hM ⊢
  have HR := Lib.hid hrl
  clear hrl
  have tok1 : True := trivial
  go_enter Try.func82, Try.ntmps82
  go_wp2_with (first | (have _t := tok1; (first | (have hM0 := hM; clear hM; refine BigFrame.wpList_want (by rfl) fun K hK => ws_alloc hM0 (t := 22) rfl (bvs z32).toArray info_sum (fun g2 w hM => hK _ _ ?_); clear hM0 hK K) | fail); clear tok1) | (first | (refine BigFrame.wpList_want (by rfl) fun K hK => ws_load hM rfl rfl (by (repeat (first | assumption | (with_reducible exact mZ) | apply mS)); first | done | fail) (n := 10) (by rfl) (by kernel_rfl) (hK _ _ ?_); clear hK K) | fail) | (first | (have hM0 := hM; clear hM; refine BigFrame.wpList_want (by rfl) fun K hK => ws_alloc hM0 (t := 173) rfl _ info_st (fun g3 w hM => hK _ _ ?_); clear hM0 hK K) | fail) | (first | (have hM0 := hM; clear hM; refine BigFrame.wpList_want (by rfl) fun K hK => ws_store hM0 rfl rfl rfl (by (repeat (first | (with_reducible exact Take.head) | apply Take.tail)); first | done | fail) (n := 10) (by rfl) (by rfl) (by kernel_rfl) (by exact stC_one _ _ _ rfl rfl) (fun w hM => hK _ _ ?_); clear hM0 hK K) | fail) | (first | (refine BigFrame.wpList_want (by rfl) fun K hK => ws_load1 hM rfl rfl (by (repeat (first | assumption | (with_reducible exact mZ) | apply mS)); first | done | fail) (by first | exact sh_at8 _ _ _ | exact sh_at9 _ _ _) (by kernel_rfl) (hK _ _ ?_); clear hK K) | fail) | (first | (have hM0 := hM; clear hM; refine BigFrame.wpList_want (by rfl) fun K hK => ws_store1 hM0 rfl rfl (by go_simp; rfl) (by first | rfl | assumption) (by (repeat (first | (with_reducible exact Take.head) | apply Take.tail)); first | done | fail) (by first | exact (by decide : 8 < 10) | exact (by decide : 9 < 10)) (by kernel_rfl) (by first | exact sh_set8 _ _ _ _ | exact sh_set9 _ _ _ _) (fun w hM => hK _ _ ?_); clear hM0 hK K) | fail) | (first | (have hM0 := hM; clear hM; refine BigFrame.wpList_want (by rfl) fun K hK => ws_slice_tail hM0 (n := 0) rfl 5 1 (.int .u8 0) [] Try.underlying80 (by kernel_rfl) rfl (by simp [Value.cells, iv, sv, bv]) (by rfl) (by decide) (by decide) (cs := []) (by rfl) (fun g4 w hM => hK _ _ ?_); clear hM0 hK K) | fail) | (first | (have hM0 := hM; clear hM; refine BigFrame.wpList_want (by rfl) fun K hK => ws_slice_tail hM0 (n := 1) rfl 5 1 (.int .u8 0) [bv 128] Try.underlying80 (by kernel_rfl) rfl (by simp [Value.cells, iv, sv, bv]) (by rfl) (by decide) (by decide) (cs := bvs [128]) (by rfl) (fun g5 w hM => hK _ _ ?_); clear hM0 hK K) | fail) | (first | (have hM0 := hM; clear hM; refine BigFrame.wpList_want (by rfl) fun K hK => ws_app hM0 rfl rfl 5 ((.int .u8 0)) 1 1 Try.underlying80 (by kernel_rfl) (by rfl) (by (repeat (first | (with_reducible exact Take.head) | apply Take.tail)); first | done | fail) (src_row Try.underlying80 _ (hM0.tail_row (by (repeat (first | assumption | (with_reducible exact mZ) | apply mS)); first | done | fail)) (bvs_oneCell _)) ((by simp; omega)) (fun A1 c1 w hM => hK _ _ ?_); clear hM0 hK K; (try simp only [Nat.zero_add, Nat.add_zero, List.nil_append, List.append_nil, ← bvs_app] at hM)) | fail))
  have hZ := zeros_fact all
  have HZ := Lib.hid hZ.2.2
  have HZ1 := Lib.hid hZ.1
  have hz64 := hZ.2.1
  clear hZ
  obtain ⟨Z, hZd⟩ : ∃ Z, Z = zerosN all.length := ⟨_, rfl⟩
  rw [← hZd] at HZ HZ1 hz64
  have HZd := Lib.hid hZd
  clear hZd
  replace hM := hM.drop_ (x := tailE 5 1 (some ⟨g5, 0, none⟩) 1 1 (bvs [128])) (by (repeat (first | (with_reducible exact Take.head) | apply Take.tail)); first | done | fail)
  go_frame
  go_loopg [] Z (fun gk wx => ∃ (j n : Nat) (A2 : Option Addr) (c2 : Nat), gk = Z - j ∧ j ≤ Z ∧ Hid (n = (rest all).length + 1 + j) ∧ Star (tailE 5 1 A2 n c2 (bvs (rest all ++ [128] ++ List.replicate j 0)) :: cellsE g3 173 (stC (hst all) (.slice A2 n c2) (.int .u64 (all.length : Int))) :: cellsE g2 22 (bvs z32).toArray :: tailE 5 1 A (rest all).length c (bvs (rest all)) :: cellsE g 173 (stC (hst all) (.slice A (rest all).length c) (.int .u64 (all.length : Int))) :: F) wx)
  case atStart => exact ⟨0, (rest all).length + 1, A1, c1, by omega, by omega, (by show _ = _; omega), by simp only [List.replicate_zero, List.append_nil]; exact hM.sel (by repeat (first | (with_reducible exact Sel.refl) | (with_reducible exact Take.head) | (with_reducible apply Take.tail) | (with_reducible apply Sel.cons) | (with_reducible apply Sel.drop)))⟩
  case round =>
    clear hM
    obtain ⟨j, n, A2, c2, hgk, hj, hn, hM⟩ := hrel
    have hnb : n ≤ 200 := by have := hn.out; omega
    by_cases hjl : j < Z
    · have hne : n % 64 ≠ 56 := by rw [hn.out]; exact HZ.out j hjl
      have hne1 : (((n : Int) % 64) != 56) = true := by simp; omega
      have hne2 : (((n : Int) % 64) == 56) = false := by simp; omega
      clear hne
      go_wp2_with (first | (first | (refine BigFrame.wpList_want (by rfl) fun K hK => ws_load1 hM rfl rfl (by (repeat (first | assumption | (with_reducible exact mZ) | apply mS)); first | done | fail) (by first | exact sh_at8 _ _ _ | exact sh_at9 _ _ _) (by kernel_rfl) (hK _ _ ?_); clear hK K) | fail) | (first | (have hM0 := hM; clear hM; refine BigFrame.wpList_want (by rfl) fun K hK => ws_slice_tail hM0 (n := 1) rfl 5 1 (.int .u8 0) [bv 0] Try.underlying80 (by kernel_rfl) rfl (by simp [Value.cells, iv, sv, bv]) (by rfl) (by decide) (by decide) (cs := bvs [0]) (by rfl) (fun g6 w hM => hK _ _ ?_); clear hM0 hK K) | fail) | (first | (have hM0 := hM; clear hM; refine BigFrame.wpList_want (by rfl) fun K hK => ws_app hM0 rfl rfl 5 ((.int .u8 0)) 1 1 Try.underlying80 (by kernel_rfl) (by rfl) (by (repeat (first | (with_reducible exact Take.head) | apply Take.tail)); first | done | fail) (src_row Try.underlying80 _ (hM0.tail_row (by (repeat (first | assumption | (with_reducible exact mZ) | apply mS)); first | done | fail)) (bvs_oneCell _)) ((by simp; omega)) (fun A3 c3 w hM => hK _ _ ?_); clear hM0 hK K; (try simp only [Nat.zero_add, Nat.add_zero, List.nil_append, List.append_nil, ← bvs_app] at hM)) | fail) | (first | (have hM0 := hM; clear hM; refine BigFrame.wpList_want (by rfl) fun K hK => ws_store1 hM0 rfl rfl (by go_simp; rfl) (by first | rfl | assumption) (by (repeat (first | (with_reducible exact Take.head) | apply Take.tail)); first | done | fail) (by first | exact (by decide : 8 < 10) | exact (by decide : 9 < 10)) (by kernel_rfl) (by first | exact sh_set8 _ _ _ _ | exact sh_set9 _ _ _ _) (fun w hM => hK _ _ ?_); clear hM0 hK K) | fail))
      go_frame
      go_roundg (Z - (j + 1))
      case measure => omega
      case rel =>
        refine ⟨j + 1, n + 1, A3, c3, rfl, by omega, (by show _ = _; have := hn.out; omega), ?_⟩
        rw [List.replicate_succ', ← List.append_assoc]
        exact hM.sel (by repeat (first | (with_reducible exact Sel.refl) | (with_reducible exact Take.head) | (with_reducible apply Take.tail) | (with_reducible apply Sel.cons) | (with_reducible apply Sel.drop)))
    · obtain rfl : j = Z := by omega
      have heq : n % 64 = 56 := by rw [hn.out]; exact HZ1.out
      have hne1 : (((n : Int) % 64) != 56) = false := by simp; omega
      have hne2 : (((n : Int) % 64) == 56) = true := by simp; omega
      clear heq
      go_wp2_with (first | (first | (refine BigFrame.wpList_want (by rfl) fun K hK => ws_load1 hM rfl rfl (by (repeat (first | assumption | (with_reducible exact mZ) | apply mS)); first | done | fail) (by first | exact sh_at8 _ _ _ | exact sh_at9 _ _ _) (by kernel_rfl) (hK _ _ ?_); clear hK K) | fail))
      have HE : Hid (ends all = rest all ++ [128] ++ List.replicate j 0) := by show _ = _; rw [HZd.out]; rfl
      replace hM : Star (tailE 5 1 A2 n c2 (bvs (ends all ++ (lenBytes all.length).take 0)) :: cellsE g3 173 (stC (hst all) (.slice A2 n c2) (.int .u64 (all.length : Int))) :: cellsE g2 22 (bvs z32).toArray :: tailE 5 1 A (rest all).length c (bvs (rest all)) :: cellsE g 173 (stC (hst all) (.slice A (rest all).length c) (.int .u64 (all.length : Int))) :: F) wr := by rw [List.take_zero, List.append_nil, HE.out]; exact hM
      have HN : Hid (n = (ends all).length) := by show _ = _; rw [hn.out, ends_len, HZd.out]
      obtain ⟨wq, rfl⟩ : ∃ wq : World, wq = wr := ⟨_, rfl⟩
      go_loopw [4] (fun i wx => ∃ (k m : Nat) (A3 : Option Addr) (c3 : Nat), k ≤ 8 ∧ i = .int .i64 (7 - (k : Int)) ∧ Hid (m = (ends all).length + k) ∧ Star (tailE 5 1 A3 m c3 (bvs (ends all ++ (lenBytes all.length).take k)) :: cellsE g3 173 (stC (hst all) (.slice A3 m c3) (.int .u64 (all.length : Int))) :: cellsE g2 22 (bvs z32).toArray :: tailE 5 1 A (rest all).length c (bvs (rest all)) :: cellsE g 173 (stC (hst all) (.slice A (rest all).length c) (.int .u64 (all.length : Int))) :: F) wx) (fun i _ => (intOf i + 1).toNat)
      case atStart => exact ⟨0, n, A2, c2, by omega, rfl, (by show _ = _; rw [HN.out]; omega), hM⟩
      case round =>
        clear hM
        obtain ⟨k, m, A3, c3, hk, rfl, hm, hM⟩ := hrel
        have hmb : m ≤ 300 := by have h1 := hm.out; have h2 := HN.out; omega
        by_cases hk8 : k < 8
        · have hi0 : (0 : Int) ≤ 7 - (k : Int) := by omega
          obtain ⟨d, hd⟩ : ∃ d, d = UInt8.ofNat (all.length * 8 / 256 ^ (7 - k)) := ⟨_, rfl⟩
          have hsh : IntKind.u8.wrap ((all.length : Int) * 8 / 2 ^ (8 * (7 - (k : Int))).toNat) = (d.toNat : Int) := by
            rw [hd, ← u8_wrap]
            congr 1
            rw [show (8 * (7 - (k : Int))).toNat = 8 * (7 - k) by omega, Int.natCast_ediv, Int.natCast_mul]
            congr 1
            rw [Int.natCast_pow, show ((256 : Nat) : Int) = 2 ^ 8 by decide, ← Int.pow_mul]
          have hg := lenBytes_get all.length k hk8
          rw [← hd] at hg
          have HT := Lib.hid (take_snoc_at _ _ _ hg)
          clear hg hd
          go_wp2_with fail
          have hw1 : IntKind.u64.wrap ((all.length : Int) * 8) = (all.length : Int) * 8 := IntWalk.u64_in _ (by omega)
          have hw2 : IntKind.i64.wrap (8 * (7 - (k : Int))) = 8 * (7 - (k : Int)) := IntWalk.i64_in _ (by omega)
          have hw3 : (0 : Int) ≤ 8 * (7 - (k : Int)) := by omega
          (refine region_RS ([cellsE g3 173 (stC (hst all) (.slice A3 m c3) (.int .u64 (all.length : Int))), cellsE g 173 (stC (hst all) (.slice A (rest all).length c) (.int .u64 (all.length : Int)))]) [14] (by kernel_rfl) hM ?_; clear hM; change RS _ _ _ _ _ _ 15 (Array.replicate 15 false) _ _; refine RS_take (i := 0) rfl (by decide +kernel) (fun _ _ _ h => h) (by first | (intro x hx; (repeat (first | exact hx | apply mS)); done) | ((repeat (refine List.forall_mem_cons.2 ⟨(by (repeat (first | assumption | (with_reducible exact mZ) | apply mS)); first | done | fail), ?_⟩)); intro x hx; first | (cases hx; done) | ((repeat (first | exact hx | apply mS)); done))) (stab_pure (by rfl) (fun w => (by go_simp; try with_reducible rfl))) ?_; simp only [Act.put, List.setIfInBounds_toArray, List.set_cons_zero, List.set_cons_succ]; refine RS_take (i := 1) rfl (by decide +kernel) (fun _ _ _ h => h) (by first | (intro x hx; (repeat (first | exact hx | apply mS)); done) | ((repeat (refine List.forall_mem_cons.2 ⟨(by (repeat (first | assumption | (with_reducible exact mZ) | apply mS)); first | done | fail), ?_⟩)); intro x hx; first | (cases hx; done) | ((repeat (first | exact hx | apply mS)); done))) (stab_read (by rfl) (fun L w hL hM => (by first | exact ex_load1 hM rfl rfl (hL _ (by (repeat (first | assumption | (with_reducible exact mZ) | apply mS)); first | done | fail)) (by exact sh_at8 _ _ _) (by kernel_rfl) | exact ex_rowload rfl rfl (hM.row (hL _ (by (repeat (first | assumption | (with_reducible exact mZ) | apply mS)); first | done | fail))) (by assumption) (by kernel_rfl) | exact ex_rowload0 rfl rfl (hM.row (hL _ (by (repeat (first | assumption | (with_reducible exact mZ) | apply mS)); first | done | fail))) (by assumption) (by kernel_rfl)))) ?_; simp only [Act.put, List.setIfInBounds_toArray, List.set_cons_zero, List.set_cons_succ]; refine RS_take (i := 2) rfl (by decide +kernel) (fun _ _ _ h => h) (by first | (intro x hx; (repeat (first | exact hx | apply mS)); done) | ((repeat (refine List.forall_mem_cons.2 ⟨(by (repeat (first | assumption | (with_reducible exact mZ) | apply mS)); first | done | fail), ?_⟩)); intro x hx; first | (cases hx; done) | ((repeat (first | exact hx | apply mS)); done))) (stab_pure (by rfl) (fun w => (by go_simp; try with_reducible rfl))) ?_; simp only [Act.put, List.setIfInBounds_toArray, List.set_cons_zero, List.set_cons_succ]; refine RS_take (i := 3) rfl (by decide +kernel) (fun _ _ _ h => h) (by first | (intro x hx; (repeat (first | exact hx | apply mS)); done) | ((repeat (refine List.forall_mem_cons.2 ⟨(by (repeat (first | assumption | (with_reducible exact mZ) | apply mS)); first | done | fail), ?_⟩)); intro x hx; first | (cases hx; done) | ((repeat (first | exact hx | apply mS)); done))) (stab_pure (by rfl) (fun w => (by go_simp; try with_reducible rfl))) ?_; simp only [Act.put, List.setIfInBounds_toArray, List.set_cons_zero, List.set_cons_succ]; refine RS_take (i := 4) rfl (by decide +kernel) (fun _ _ _ h => h) (by first | (intro x hx; (repeat (first | exact hx | apply mS)); done) | ((repeat (refine List.forall_mem_cons.2 ⟨(by (repeat (first | assumption | (with_reducible exact mZ) | apply mS)); first | done | fail), ?_⟩)); intro x hx; first | (cases hx; done) | ((repeat (first | exact hx | apply mS)); done))) (stab_pure (by rfl) (fun w => (by go_simp; try with_reducible rfl))) ?_; simp only [Act.put, List.setIfInBounds_toArray, List.set_cons_zero, List.set_cons_succ]; refine RS_take (i := 5) rfl (by decide +kernel) (fun _ _ _ h => h) (by first | (intro x hx; (repeat (first | exact hx | apply mS)); done) | ((repeat (refine List.forall_mem_cons.2 ⟨(by (repeat (first | assumption | (with_reducible exact mZ) | apply mS)); first | done | fail), ?_⟩)); intro x hx; first | (cases hx; done) | ((repeat (first | exact hx | apply mS)); done))) (stab_read (by rfl) (fun L w hL hM => (by first | exact ex_load1 hM rfl rfl (hL _ (by (repeat (first | assumption | (with_reducible exact mZ) | apply mS)); first | done | fail)) (by exact sh_at9 _ _ _) (by kernel_rfl) | exact ex_rowload rfl rfl (hM.row (hL _ (by (repeat (first | assumption | (with_reducible exact mZ) | apply mS)); first | done | fail))) (by assumption) (by kernel_rfl) | exact ex_rowload0 rfl rfl (hM.row (hL _ (by (repeat (first | assumption | (with_reducible exact mZ) | apply mS)); first | done | fail))) (by assumption) (by kernel_rfl)))) ?_; simp only [Act.put, List.setIfInBounds_toArray, List.set_cons_zero, List.set_cons_succ]; refine RS_take (i := 6) rfl (by decide +kernel) (fun _ _ _ h => h) (by first | (intro x hx; (repeat (first | exact hx | apply mS)); done) | ((repeat (refine List.forall_mem_cons.2 ⟨(by (repeat (first | assumption | (with_reducible exact mZ) | apply mS)); first | done | fail), ?_⟩)); intro x hx; first | (cases hx; done) | ((repeat (first | exact hx | apply mS)); done))) (stab_pure (by rfl) (fun w => (by go_simp; try with_reducible rfl))) ?_; simp only [Act.put, List.setIfInBounds_toArray, List.set_cons_zero, List.set_cons_succ]; refine RS_take (i := 7) rfl (by decide +kernel) (fun _ _ _ h => h) (by first | (intro x hx; (repeat (first | exact hx | apply mS)); done) | ((repeat (refine List.forall_mem_cons.2 ⟨(by (repeat (first | assumption | (with_reducible exact mZ) | apply mS)); first | done | fail), ?_⟩)); intro x hx; first | (cases hx; done) | ((repeat (first | exact hx | apply mS)); done))) (stab_pure (by rfl) (fun w => (by go_simp; try with_reducible rfl))) ?_; simp only [Act.put, List.setIfInBounds_toArray, List.set_cons_zero, List.set_cons_succ]; refine RS_take (i := 8) rfl (by decide +kernel) (fun _ _ _ h => h) (by first | (intro x hx; (repeat (first | exact hx | apply mS)); done) | ((repeat (refine List.forall_mem_cons.2 ⟨(by (repeat (first | assumption | (with_reducible exact mZ) | apply mS)); first | done | fail), ?_⟩)); intro x hx; first | (cases hx; done) | ((repeat (first | exact hx | apply mS)); done))) (stab_pure (by rfl) (fun w => (by go_simp; try with_reducible rfl))) ?_; simp only [Act.put, List.setIfInBounds_toArray, List.set_cons_zero, List.set_cons_succ]; refine RS_take (i := 9) rfl (by decide +kernel) (fun _ _ _ h => h) (by first | (intro x hx; (repeat (first | exact hx | apply mS)); done) | ((repeat (refine List.forall_mem_cons.2 ⟨(by (repeat (first | assumption | (with_reducible exact mZ) | apply mS)); first | done | fail), ?_⟩)); intro x hx; first | (cases hx; done) | ((repeat (first | exact hx | apply mS)); done))) (stab_pure (by rfl) (fun w => (by go_simp; try with_reducible rfl))) ?_; simp only [Act.put, List.setIfInBounds_toArray, List.set_cons_zero, List.set_cons_succ]; refine RS_take (i := 10) rfl (by decide +kernel) (fun _ _ _ h => h) (by first | (intro x hx; (repeat (first | exact hx | apply mS)); done) | ((repeat (refine List.forall_mem_cons.2 ⟨(by (repeat (first | assumption | (with_reducible exact mZ) | apply mS)); first | done | fail), ?_⟩)); intro x hx; first | (cases hx; done) | ((repeat (first | exact hx | apply mS)); done))) ((by first | exact stab_pure (by rfl) (fun w => (by go_simp; try with_reducible rfl)) | exact stab_read (by rfl) (fun L w hL hM => ex_string rfl 5 Try.underlying80 Try.underlying9 Try.underlying5 rfl (hM.row (hL _ (by (repeat (first | assumption | (with_reducible exact mZ) | apply mS)); first | done | fail)))))) ?_; simp only [Act.put, List.setIfInBounds_toArray, List.set_cons_zero, List.set_cons_succ]; refine RS_one (i := 11) (by decide +kernel) rfl (by rfl) (.inl (by first | (intro x hx; (repeat (first | exact hx | apply mS)); done) | ((repeat (refine List.forall_mem_cons.2 ⟨(by (repeat (first | assumption | (with_reducible exact mZ) | apply mS)); first | done | fail), ?_⟩)); intro x hx; first | (cases hx; done) | ((repeat (first | exact hx | apply mS)); done)))) (fun w K hM0 hK => ?_); refine ws_slice_tail hM0 (n := 1) rfl 5 1 (.int .u8 0) [bv d] Try.underlying80 (by kernel_rfl) rfl (by simp [Value.cells, iv, sv, bv]) (by rfl) (by decide) (by decide) (cs := bvs [d]) (by rfl) (fun g7 w hM => hK _ _ _ hM ?_); clear hM hM0 hK K; simp only [Act.put, List.setIfInBounds_toArray, List.set_cons_zero, List.set_cons_succ]; refine RS_one (i := 12) (by decide +kernel) rfl (by rfl) (.inl (by first | (intro x hx; (repeat (first | exact hx | apply mS)); done) | ((repeat (refine List.forall_mem_cons.2 ⟨(by (repeat (first | assumption | (with_reducible exact mZ) | apply mS)); first | done | fail), ?_⟩)); intro x hx; first | (cases hx; done) | ((repeat (first | exact hx | apply mS)); done)))) (fun w K hM0 hK => ?_); refine ws_app hM0 rfl rfl 5 ((.int .u8 0)) 1 1 Try.underlying80 (by kernel_rfl) (by rfl) (by (repeat (first | (with_reducible exact Take.head) | apply Take.tail)); first | done | fail) (src_row Try.underlying80 _ (hM0.tail_row (by (repeat (first | assumption | (with_reducible exact mZ) | apply mS)); first | done | fail)) (bvs_oneCell _)) ((by simp; omega)) (fun A4 c4 w hM => hK _ _ _ hM ?_); clear hM hM0 hK K; simp only [Act.put, List.setIfInBounds_toArray, List.set_cons_zero, List.set_cons_succ]; refine RS_take (i := 13) rfl (by decide +kernel) (fun _ _ _ h => h) (by first | (intro x hx; (repeat (first | exact hx | apply mS)); done) | ((repeat (refine List.forall_mem_cons.2 ⟨(by (repeat (first | assumption | (with_reducible exact mZ) | apply mS)); first | done | fail), ?_⟩)); intro x hx; first | (cases hx; done) | ((repeat (first | exact hx | apply mS)); done))) (stab_pure (by rfl) (fun w => (by go_simp; try with_reducible rfl))) ?_; simp only [Act.put, List.setIfInBounds_toArray, List.set_cons_zero, List.set_cons_succ]; refine RS_one (i := 14) (by decide +kernel) rfl (by rfl) (.inl (by first | (intro x hx; (repeat (first | exact hx | apply mS)); done) | ((repeat (refine List.forall_mem_cons.2 ⟨(by (repeat (first | assumption | (with_reducible exact mZ) | apply mS)); first | done | fail), ?_⟩)); intro x hx; first | (cases hx; done) | ((repeat (first | exact hx | apply mS)); done)))) (fun w K hM0 hK => ?_); refine ws_store1 hM0 rfl rfl (by go_simp; rfl) (by first | rfl | assumption) (by (repeat (first | (with_reducible exact Take.head) | apply Take.tail)); first | done | fail) (by first | exact (by decide : 8 < 10) | exact (by decide : 9 < 10)) (by kernel_rfl) (by first | exact sh_set8 _ _ _ _ | exact sh_set9 _ _ _ _) (fun w hM => hK _ _ _ hM ?_); clear hM hM0 hK K; simp only [Act.put, List.setIfInBounds_toArray, List.set_cons_zero, List.set_cons_succ]; refine RS_done (by decide +kernel) (.inr (by decide +kernel)) (fun w hM => ?_))
          go_wp2
          go_roundw
          case rel =>
            refine ⟨k + 1, m + 1, A4, c4, by omega, (by congr 1; omega), (by show _ = _; have := hm.out; omega), ?_⟩
            rw [HT.out, ← List.append_assoc, bvs_app]
            exact hM.sel (by repeat (first | (with_reducible exact Sel.refl) | (with_reducible exact Take.head) | (with_reducible apply Take.tail) | (with_reducible apply Sel.cons) | (with_reducible apply Sel.drop)))
          case measure => simp [intOf]; omega
        · obtain rfl : k = 8 := by omega
          have hi8 : (7 : Int) - ((8 : Nat) : Int) = -1 := by decide
          have ht8 : (lenBytes all.length).take 8 = lenBytes all.length := List.take_of_length_le (by rw [lenBytes_len]; omega)
          rw [ht8] at hM
          have hSha := sha_ends all
          obtain ⟨Y, hY⟩ : ∃ Y, Y = ends all ++ lenBytes all.length := ⟨_, rfl⟩
          rw [← hY] at hM hSha
          have hYl : Y.length = m := by rw [hY, List.length_append, lenBytes_len, hm.out]
          have hYm : Y.length % 64 = 0 := by
            have h1 := HZ1.out; have h2 := hm.out; have h3 := HN.out; have h4 := hn.out
            omega
          have HYl := Lib.hid hYl
          have HYm := Lib.hid hYm
          have HSha := Lib.hid hSha
          have hYb : Y.length ≤ 300 := by omega
          clear hY hYl hYm hSha ht8
          go_wp2_with fail
          (try go_frame)
          obtain ⟨wq2, rfl⟩ : ∃ wq : World, wq = wr := ⟨_, rfl⟩
          go_loopg [] (Y.length / 64) (fun gk wx => ∃ (j n : Nat) (Ax : Option Addr) (cx : Nat), gk = Y.length / 64 - j ∧ j ≤ Y.length / 64 ∧ Hid (n = Y.length - 64 * j) ∧ Star (tailE 5 1 Ax n cx (bvs (Y.drop (64 * j))) :: cellsE g3 173 (stC (mixN (hst all) j Y) (.slice Ax n cx) (.int .u64 (all.length : Int))) :: cellsE g2 22 (bvs z32).toArray :: tailE 5 1 A (rest all).length c (bvs (rest all)) :: cellsE g 173 (stC (hst all) (.slice A (rest all).length c) (.int .u64 (all.length : Int))) :: F) wx)
          case atStart => exact ⟨0, m, A3, c3, by omega, by omega, (by show _ = _; rw [HYl.out]; omega), by simpa [mixN] using hM⟩
          case round =>
            clear hM
            obtain ⟨j, n, A5, c5, hgk, hj, hn5, hM⟩ := hrel
            by_cases hjl : j < Y.length / 64
            · have hT : Tail wr 5 1 A5 n c5 (bvs (Y.drop (64 * j))) := hM.head
              have hn64 : 64 ≤ n := by have := hn5.out; omega
              have hnc : n ≤ c5 := hT.2.1
              have hcm : c5 ≤ 9223372036854775807 := by have := hT.2.2.1; unfold maxLen at this; exact this
              obtain ⟨gp, off, rfl⟩ := hT.some_ (by omega)
              have hne : gp ≠ g3 := hT.ne_ hM.tail.head (t := 173) (by decide)
              clear hT
              have h64 : 64 ≤ c5 := by omega
              have HB := Lib.hid (mixN_succ_last (hst all) j Y)
              have HBl : Hid (((Y.drop (64 * j)).take 64).length = 64) := by show _ = _; have := hn5.out; simp; omega
              have HD : Hid ((Y.drop (64 * j)).drop 64 = Y.drop (64 * (j + 1))) := by show _ = _; rw [List.drop_drop, Nat.mul_add]
              by_cases hck : c5 = 64
              · subst hck
                obtain rfl : n = 64 := by omega
                go_wp2_with (first | (first | (refine BigFrame.wpList_want (by rfl) fun K hK => ws_load1 hM rfl rfl (by (repeat (first | assumption | (with_reducible exact mZ) | apply mS)); first | done | fail) (by first | exact sh_at8 _ _ _ | exact sh_at9 _ _ _) (by kernel_rfl) (hK _ _ ?_); clear hK K) | fail) | (go_at_call 106; have hM0 := hM; clear hM; (first | (with_reducible refine (block_star (mixN (hst all) j Y) _ _ ((Y.drop (64 * j)).take 64) ⟨gp, off, none⟩ 64 g3 HBl.out (by omega) (by omega) _ (hM0.take (x := cellsE g3 173 _) (by (repeat (first | (with_reducible exact Take.head) | apply Take.tail)); first | done | fail)) (hM0.tail_first (by (repeat (first | assumption | (with_reducible exact mZ) | apply mS)); first | done | fail) (by omega)) hne).mono ?_) | fail); clear hM0; rintro _ w ⟨rfl, hM⟩) | (first | (have hM0 := hM; clear hM; refine BigFrame.wpList_want (by rfl) fun K hK => ws_store1 hM0 rfl rfl (by go_simp; rfl) (by first | rfl | assumption) (by (repeat (first | (with_reducible exact Take.head) | apply Take.tail)); first | done | fail) (by first | exact (by decide : 8 < 10) | exact (by decide : 9 < 10)) (by kernel_rfl) (by first | exact sh_set8 _ _ _ _ | exact sh_set9 _ _ _ _) (fun w hM => hK _ _ ?_); clear hM0 hK K) | fail))
                go_frame
                go_roundg (Y.length / 64 - (j + 1))
                case measure => omega
                case rel =>
                  have hM2 := (hM.take (x := tailE 5 1 (some ⟨gp, off, none⟩) 64 64 (bvs (Y.drop (64 * j)))) (by (repeat (first | (with_reducible exact Take.head) | apply Take.tail)); first | done | fail)).tail_cut (k := 64) (by omega)
                  simp only [Nat.mul_one, bvs_drop, if_true, Nat.sub_self] at hM2
                  rw [HD.out] at hM2
                  refine ⟨j + 1, 0, some ⟨gp, off, none⟩, 0, rfl, by omega, (by show _ = _; have := hn5.out; omega), ?_⟩
                  rw [HB.out]
                  exact hM2
              · go_wp2_with (first | (first | (refine BigFrame.wpList_want (by rfl) fun K hK => ws_load1 hM rfl rfl (by (repeat (first | assumption | (with_reducible exact mZ) | apply mS)); first | done | fail) (by first | exact sh_at8 _ _ _ | exact sh_at9 _ _ _) (by kernel_rfl) (hK _ _ ?_); clear hK K) | fail) | (go_at_call 106; have hM0 := hM; clear hM; (first | (with_reducible refine (block_star (mixN (hst all) j Y) _ _ ((Y.drop (64 * j)).take 64) ⟨gp, off, none⟩ c5 g3 HBl.out (by omega) (by omega) _ (hM0.take (x := cellsE g3 173 _) (by (repeat (first | (with_reducible exact Take.head) | apply Take.tail)); first | done | fail)) (hM0.tail_first (by (repeat (first | assumption | (with_reducible exact mZ) | apply mS)); first | done | fail) (by omega)) hne).mono ?_) | fail); clear hM0; rintro _ w ⟨rfl, hM⟩) | (first | (have hM0 := hM; clear hM; refine BigFrame.wpList_want (by rfl) fun K hK => ws_store1 hM0 rfl rfl (by go_simp; rfl) (by first | rfl | assumption) (by (repeat (first | (with_reducible exact Take.head) | apply Take.tail)); first | done | fail) (by first | exact (by decide : 8 < 10) | exact (by decide : 9 < 10)) (by kernel_rfl) (by first | exact sh_set8 _ _ _ _ | exact sh_set9 _ _ _ _) (fun w hM => hK _ _ ?_); clear hM0 hK K) | fail))
                go_frame
                go_roundg (Y.length / 64 - (j + 1))
                case measure => omega
                case rel =>
                  have hM2 := (hM.take (x := tailE 5 1 (some ⟨gp, off, none⟩) n c5 (bvs (Y.drop (64 * j)))) (by (repeat (first | (with_reducible exact Take.head) | apply Take.tail)); first | done | fail)).tail_cut (k := 64) hn64
                  simp only [Nat.mul_one, bvs_drop, if_neg hck, Option.map_some, add_lit] at hM2
                  rw [HD.out] at hM2
                  refine ⟨j + 1, n - 64, some ⟨gp, off + 64, none⟩, c5 - 64, rfl, by omega, (by show _ = _; have := hn5.out; omega), ?_⟩
                  rw [HB.out]
                  exact hM2
            · obtain rfl : j = Y.length / 64 := by omega
              obtain rfl : n = 0 := by have h1 := hn5.out; have h2 := HYm.out; omega
              obtain ⟨s, hs⟩ : ∃ s, s = mixN (hst all) (Y.length / 64) Y := ⟨_, rfl⟩
              rw [← hs] at hM
              have HB2 : Hid (sha all = s.bytes) := by show _ = _; rw [HSha.out, hs]
              clear hs
              go_wp2_with (first | (first | (refine BigFrame.wpList_want (by rfl) fun K hK => ws_load1 hM rfl rfl (by (repeat (first | assumption | (with_reducible exact mZ) | apply mS)); first | done | fail) (by first | exact sh_at8 _ _ _ | exact sh_at9 _ _ _) (by kernel_rfl) (hK _ _ ?_); clear hK K) | fail) | (first | (have hM0 := hM; clear hM; refine BigFrame.wpList_want (by rfl) fun K hK => ws_alloc hM0 (t := 22) rfl (bvs z32).toArray info_sum (fun g8 w hM => hK _ _ ?_); clear hM0 hK K) | fail))
              have hBl := W8.bytes_len s
              obtain ⟨wq3, rfl⟩ : ∃ wq : World, wq = w := ⟨_, rfl⟩
              go_loopw [62] (fun i wx => ∃ k : Nat, k ≤ 32 ∧ i = .int .i64 k ∧ Star (cellsE g8 22 (bvs (s.bytes.take k ++ z32.drop k)).toArray :: tailE 5 1 A5 0 c5 (bvs (Y.drop (64 * (Y.length / 64)))) :: cellsE g3 173 (stC s (.slice A5 0 c5) (.int .u64 (all.length : Int))) :: cellsE g2 22 (bvs z32).toArray :: tailE 5 1 A (rest all).length c (bvs (rest all)) :: cellsE g 173 (stC (hst all) (.slice A (rest all).length c) (.int .u64 (all.length : Int))) :: F) wx) (fun i _ => 32 - (intOf i).toNat)
              case atStart => exact ⟨0, by omega, rfl, by simpa using hM⟩
              case round =>
                clear hM
                obtain ⟨k, hk, rfl, hM⟩ := hrel
                by_cases hk32 : k < 32
                · obtain ⟨x, hx, hb⟩ := bytes_at s k hk32
                  have hv := stC_at s (.slice A5 0 c5) (.int .u64 (all.length : Int)) (k / 4) x hx
                  obtain ⟨q, hq⟩ : ∃ q, q = k / 4 := ⟨_, rfl⟩
                  obtain ⟨r, hr⟩ : ∃ r, r = k % 4 := ⟨_, rfl⟩
                  have hqi : (k : Int) / 4 = (q : Int) := by omega
                  have hri : (k : Int) % 4 = (r : Int) := by omega
                  have hq8 : (q : Int) < 8 := by omega
                  have hr4 : (r : Int) < 4 := by omega
                  rw [← hq] at hv
                  rw [← hr] at hb
                  have hset := out_set s.bytes k _ hBl hk32 hb
                  have HSET := Lib.hid hset
                  have HV := Lib.hid hv
                  clear hset hb hq hr hx hv
                  have hx0 := w32_lt x
                  go_wp2_with (first | (first | (refine BigFrame.wpList_want (by rfl) fun K hK => ws_load1 hM rfl rfl (by (repeat (first | assumption | (with_reducible exact mZ) | apply mS)); first | done | fail) (by exact HV.out) (by kernel_rfl) (hK _ _ ?_); clear hK K) | fail) | (first | (have hM0 := hM; clear hM; refine BigFrame.wpList_want (by rfl) fun K hK => ws_store1 hM0 rfl rfl (by go_simp; rfl) (by first | rfl | assumption) (by (repeat (first | (with_reducible exact Take.head) | apply Take.tail)); first | done | fail) (by simp [bvs_len, z32_len, hBl] <;> omega) (by kernel_rfl) (by exact HSET.out) (fun w hM => hK _ _ ?_); clear hM0 hK K) | fail))
                  go_roundw
                  case rel => exact ⟨k + 1, by omega, by go_num, hM⟩
                  case measure => simp [intOf]; omega
                · obtain rfl : k = 32 := by omega
                  have ht : s.bytes.take 32 ++ z32.drop 32 = sha all := by
                    rw [List.take_of_length_le (by omega), List.drop_of_length_le (by rw [z32_len]; omega), List.append_nil, HB2.out]
                  rw [ht] at hM
                  clear ht
                  have hshl := sha_len all
                  have HSL := Lib.hid hshl
                  clear hshl
                  go_wp2_with (first | (first | (refine BigFrame.wpList_want (by rfl) fun K hK => ws_load hM rfl rfl (by (repeat (first | assumption | (with_reducible exact mZ) | apply mS)); first | done | fail) (n := 32) (by simp [bvs_len, HSL.out]) (by kernel_rfl) (hK _ _ ?_); clear hK K) | fail) | (first | (have hM0 := hM; clear hM; refine BigFrame.wpList_want (by rfl) fun K hK => ws_store hM0 rfl rfl rfl (by (repeat (first | (with_reducible exact Take.head) | apply Take.tail)); first | done | fail) (n := 32) (by simp [bvs_len, HSL.out]) (by simp [bvs_len, z32_len]) (by kernel_rfl) (by simpa using bvs_oneCell _) (fun w hM => hK _ _ ?_); clear hM0 hK K) | fail))
                  exact bodyPost_ret (results_cell_row rfl _ _ g2 22 (bvs (sha all)).toArray (0, 0) _ rfl (hM.blk (by (repeat (first | assumption | (with_reducible exact mZ) | apply mS)); first | done | fail)) Try.underlying22 rfl (by rw [info_sumn]; simp [bvs_len, HSL.out])) rfl ⟨rfl, hM.sel (by repeat (first | (with_reducible exact Sel.refl) | (with_reducible exact Take.head) | (with_reducible apply Take.tail) | (with_reducible apply Sel.cons) | (with_reducible apply Sel.drop)))⟩
end Go.Proofs.Ytlhedbjjlomniaa
set_option linter.unusedSimpArgs false
set_option linter.unusedVariables false
namespace Go.Proofs.Ytlhedbjjlomniaa
open Go.RowKit
attribute [local go_sem] extract_mid extract_drop bget bsize wrap64_u8 i64_u8 u64_u8 bappend
section
variable {L R1 R2 : List SProp}
theorem write2 (g : Nat) (all : List UInt8) (ps : List (List UInt8)) {As : Option Addr} {np cp : Nat} {A : Option Addr} {n c : Nat} (h1 : Take (cellsE g 173 (shCells all A n c)) L R1) (h2 : Take (tailE 5 1 A n c (bvs (rest all))) R1 R2)
    (hF : rowE 1 As np (svs ps) ∈ R2) (hps : ∀ x ∈ ps, x.length ≤ 1000000000) (hnp : np ≤ 1000) (hall : all.length ≤ 1000000000000) (w : World) (hM : Star L w) :
    Calls Try.prog 81 #[.pointer (some ⟨g, 0, none⟩), .slice As np cp] w fun r w' => ∃ A' n' c', r = .returned (.pointer (some ⟨g, 0, none⟩)) ∧ Star (tailE 5 1 A' n' c' (bvs (rest (all ++ cat ps))) :: cellsE g 173 (shCells (all ++ cat ps) A' n' c') :: R2) w' :=
  write_star g all ps As np cp hps hnp hall A n c w ((hM.take h1).take (.tail h2)) hF
theorem write2_b (g : Nat) (all : List UInt8) (ps : List (List UInt8)) {As : Option Addr} {np cp : Nat} {A : Option Addr} {n c : Nat} (h1 : Take (cellsE g 173 (shCells all A n c)) L R1) (h2 : Take (tailE 5 1 A n c (bvs (rest all))) R1 R2)
    (hF : rowE 1 As np (svs ps) ∈ R2) (hps : all.length + (cat ps).length ≤ 140737488355000) (hnp : np ≤ 1000) (w : World) (hM : Star L w) :
    Calls Try.prog 81 #[.pointer (some ⟨g, 0, none⟩), .slice As np cp] w fun r w' => ∃ A' n' c', r = .returned (.pointer (some ⟨g, 0, none⟩)) ∧ Star (tailE 5 1 A' n' c' (bvs (rest (all ++ cat ps))) :: cellsE g 173 (shCells (all ++ cat ps) A' n' c') :: R2) w' :=
  write_star_b g all ps As np cp hps hnp A n c w ((hM.take h1).take (.tail h2)) hF
theorem sum2 (g : Nat) (all : List UInt8) {A : Option Addr} {n c : Nat} (h1 : Take (cellsE g 173 (shCells all A n c)) L R1) (h2 : Take (tailE 5 1 A n c (bvs (rest all))) R1 R2)
    (hall : all.length ≤ 140737488355000) (w : World) (hM : Star L w) :
    Calls Try.prog 82 #[.pointer (some ⟨g, 0, none⟩)] w fun r w' => r = .returned (.agg (bvs (sha all)).toArray) ∧ Star L w' :=
  (sum_star g all hall A n c w ((hM.take h1).take (.tail h2))).mono fun _ _ ⟨e, h⟩ => ⟨e, h.perm (((List.Perm.swap _ _ _).trans (List.Perm.cons _ h2.perm.symm)).trans h1.perm.symm)⟩
end
end Go.Proofs.Ytlhedbjjlomniaa
set_option linter.unusedSimpArgs false
set_option linter.unusedVariables false
namespace Go.Proofs.Ytlhedbjjlomniaa
open Go.RowKit
attribute [local go_sem] extract_mid extract_drop bget bsize wrap64_u8 i64_u8 u64_u8 bappend
theorem and_i64 (n : Int) (m : Nat) (hm : m ≤ 62) : bits .and .i64 n (2 ^ m - 1 : Nat) = n % ((2 ^ m : Nat) : Int) := by
  have h62 : 2 ^ m ≤ 2 ^ 62 := Nat.pow_le_pow_right (by decide) hm
  have h0 : 0 < 2 ^ m := Nat.pow_pos (by decide)
  have hc : (BitVec.ofInt 64 ((2 ^ m - 1 : Nat) : Int)).toNat = 2 ^ m - 1 := by
    rw [BitVec.ofInt_natCast, BitVec.toNat_ofNat]; exact Nat.mod_eq_of_lt (by omega)
  have key : (BitVec.ofInt 64 n &&& BitVec.ofInt 64 ((2 ^ m - 1 : Nat) : Int)).toNat = (n % ((2 ^ 64 : Nat) : Int)).toNat % 2 ^ m := by
    rw [BitVec.toNat_and, BitVec.toNat_ofInt, hc, Nat.and_two_pow_sub_one_eq_mod]
  show IntKind.i64.wrap ((BitVec.ofInt 64 n &&& BitVec.ofInt 64 ((2 ^ m - 1 : Nat) : Int)).toNat : Nat) = _
  rw [key, IntKind.wrap_i64]
  have hd : ((2 ^ m : Nat) : Int) ∣ ((2 ^ 64 : Nat) : Int) := by
    rw [Int.natCast_dvd_natCast]; exact Nat.pow_dvd_pow 2 (by omega)
  have e1 : (((n % ((2 ^ 64 : Nat) : Int)).toNat % 2 ^ m : Nat) : Int) = n % ((2 ^ m : Nat) : Int) := by
    rw [Int.natCast_emod, Int.toNat_of_nonneg (Int.emod_nonneg _ (by decide)), Int.emod_emod_of_dvd _ hd]
  rw [e1]
  have h1 := Int.emod_nonneg n (show ((2 ^ m : Nat) : Int) ≠ 0 by omega)
  have h2 := Int.emod_lt_of_pos n (show (0 : Int) < ((2 ^ m : Nat) : Int) by omega)
  omega
theorem and31 (n : Int) : bits .and .i64 n 31 = n % 32 := and_i64 n 5 (by decide)
theorem and0 (n : Int) : bits .and .i64 n 0 = 0 := by have := and_i64 n 0 (by decide); simpa using this
theorem and1 (n : Int) : bits .and .i64 n 1 = n % 2 := and_i64 n 1 (by decide)
theorem and3 (n : Int) : bits .and .i64 n 3 = n % 4 := and_i64 n 2 (by decide)
theorem and7 (n : Int) : bits .and .i64 n 7 = n % 8 := and_i64 n 3 (by decide)
theorem and15' (n : Int) : bits .and .i64 n 15 = n % 16 := and_i64 n 4 (by decide)
attribute [local go_sem] and31 and0 and1 and3 and7 and15'
end Go.Proofs.Ytlhedbjjlomniaa
set_option linter.unusedSimpArgs false
set_option linter.unusedVariables false
namespace Go.Proofs.Ytlhedbjjlomniaa
open Go.RowKit
attribute [local go_sem] extract_mid extract_drop bget bsize wrap64_u8 i64_u8 u64_u8 bappend
theorem bxor8 (x y : UInt8) : bits BinOp.xor IntKind.u8 (x.toNat : Int) (y.toNat : Int) = ((x ^^^ y).toNat : Int) := by
  have h1 := x.toNat_lt
  have h2 := y.toNat_lt
  rw [u8_xor_nat x.toNat y.toNat (by omega) (by omega), UInt8.toNat_xor]
attribute [local go_sem] bxor8
set_option maxRecDepth 100000 in
theorem obytes_star {F : List SProp} (l : List UInt8) (hl : l.length = 32) (w : World) (hM : Star F w) :
    Calls Try.prog 36 #[.agg (bvs l).toArray] w fun r w' => r = .returned (.string ⟨l.toArray⟩) ∧ Star F w' := by
  go_enter Try.func36, Try.ntmps36
  go_wp2_with (first | (first | (have hM0 := hM; clear hM; refine BigFrame.wpList_want (by rfl) fun K hK => ws_box hM0 rfl rfl (cs := (bvs l).toArray) rfl (fun g1 w hM => hK _ _ ?_); clear hM0 hK K) | fail) | (first | (refine BigFrame.wpList_want (by rfl) fun K hK => ws_string (l := l) rfl 5 Try.underlying80 Try.underlying9 Try.underlying5 rfl (by first | (apply Star.row hM; (repeat (first | assumption | (with_reducible exact mZ) | apply mS)); done) | (apply Star.own hM; (repeat (first | assumption | (with_reducible exact mZ) | apply mS)); done) | (apply Star.arr hM; (focus ((repeat (first | assumption | (with_reducible exact mZ) | apply mS)); done)); assumption)) (hK _ _ ?_); clear hK K) | fail))
  go_ret
  exact ⟨rfl, hM.sel (by repeat (first | (with_reducible exact Sel.refl) | (with_reducible exact Take.head) | (with_reducible apply Take.tail) | (with_reducible apply Sel.cons) | (with_reducible apply Sel.drop)))⟩
end Go.Proofs.Ytlhedbjjlomniaa
set_option linter.unusedSimpArgs false
set_option linter.unusedVariables false
namespace Go.Proofs.Ytlhedbjjlomniaa
open Go.RowKit
attribute [local go_sem] extract_mid extract_drop bget bsize wrap64_u8 i64_u8 u64_u8 bappend
theorem wvs_app (l m : List UInt32) : wvs (l ++ m) = wvs l ++ wvs m := by simp [wvs]
theorem info_u32z : (Try.prog.info? 168).map (fun i => (i.zero, i.size)) = some (some (.int .u32 0), 1) := by kernel_rfl
theorem wvs_cells (l : List UInt32) : ∀ v ∈ wvs l, v.cells.size = 1 := by
  intro v hv
  obtain ⟨x, _, rfl⟩ := List.mem_map.1 hv
  rfl
theorem wvs_flat (l : List UInt32) : (wvs l).flatMap (fun v => v.cells.toList) = wvs l := by
  induction l with
  | nil => rfl
  | cons x l ih => simp only [wvs, List.map_cons, List.flatMap_cons] at ih ⊢; rw [ih]; rfl
set_option maxRecDepth 100000 in
theorem key_star {F : List SProp} (i : Nat) (x : UInt32) (hx : K64[i]? = some x) (w : World) (hM : Star F w) :
    Calls Try.prog 121 #[.int .i64 i] w fun r w' => r = .returned (.int .u32 (w32 x)) ∧ Star F w' := by
  have hi : i < 64 := by have := (List.getElem?_eq_some_iff.1 hx).1; rwa [K64_len] at this
  have hv := wvs_get _ _ _ hx
  have HX := Lib.hid hx
  clear hx
  go_enter Try.func121, Try.ntmps121
  go_wp2_with (first | (have hM0 := hM; clear hM; refine wpList_plain rfl fun K hK => ws_slice_row hM0 (n := 64) rfl 168 1 (.int .u32 0) (wvs K64) Try.underlying178 info_u32z (by as_aux_lemma => kernel_rfl) (wvs_cells _) (by as_aux_lemma => kernel_rfl) (by decide) (wvs_flat _) (fun g w hM => hK _ _ ?_); clear hM0 hK K) | (first | (refine BigFrame.wpList_want (by rfl) fun K hK => ws_rowload0 rfl rfl (by first | (apply Star.row hM; (repeat (first | assumption | (with_reducible exact mZ) | apply mS)); done) | (apply Star.own hM; (repeat (first | assumption | (with_reducible exact mZ) | apply mS)); done) | (apply Star.arr hM; (focus ((repeat (first | assumption | (with_reducible exact mZ) | apply mS)); done)); assumption)) (by assumption) (by kernel_rfl) (hK _ _ ?_); clear hK K) | fail))
  go_ret
  exact ⟨rfl, hM.sel (by repeat (first | (with_reducible exact Sel.refl) | (with_reducible exact Take.head) | (with_reducible apply Take.tail) | (with_reducible apply Sel.cons) | (with_reducible apply Sel.drop)))⟩
theorem word_any (a b c d : UInt8) (l : List UInt8) (w : World) : Calls Try.prog 123 #[.string ⟨(a :: b :: c :: d :: l).toArray⟩] w fun r w' => r = .returned (.int .u32 (w32 (word4 a b c d))) ∧ ∃ n, w' = w.drewN n := by
  have e : (((a.toNat : Int) % 4294967296 * 16777216 + (b.toNat : Int) % 4294967296 * 65536 + (c.toNat : Int) % 4294967296 * 256) % 4294967296 + (d.toNat : Int) % 4294967296) % 4294967296 = w32 (word4 a b c d) := by
    have h1 := a.toNat_lt; have h2 := b.toNat_lt; have h3 := c.toNat_lt; have h4 := d.toNat_lt
    unfold w32 word4
    simp only [UInt32.toNat_ofNat']
    omega
  have HE := Lib.hid e
  clear e
  go_enter Try.func123, Try.ntmps123
  go_wp2
  go_quiet (fail)
  go_wp2
  go_ret
  exact ⟨by rw [HE.out]; rfl, _, rfl⟩
set_option maxRecDepth 100000 in
theorem wbytes_star {F : List SProp} (x : UInt32) (w : World) (hM : Star F w) : Calls Try.prog 104 #[.int .u32 (w32 x)] w fun r w' => r = .returned (.string ⟨(wbytes x).toArray⟩) ∧ Star F w' := by
  have hx := w32_lt x
  obtain ⟨d1, e1⟩ : ∃ d, d = UInt8.ofNat (x.toNat / 16777216) := ⟨_, rfl⟩
  obtain ⟨d2, e2⟩ : ∃ d, d = UInt8.ofNat (x.toNat / 65536) := ⟨_, rfl⟩
  obtain ⟨d3, e3⟩ : ∃ d, d = UInt8.ofNat (x.toNat / 256) := ⟨_, rfl⟩
  obtain ⟨d4, e4⟩ : ∃ d, d = UInt8.ofNat x.toNat := ⟨_, rfl⟩
  have HW : Hid (wbytes x = [d1, d2, d3, d4]) := by show _ = _; rw [wbytes, e1, e2, e3, e4]
  have h1 : w32 x / 16777216 = (d1.toNat : Int) := by have := x.toNat_lt; rw [e1]; unfold w32; simp; omega
  have h2 : w32 x / 65536 % 256 = (d2.toNat : Int) := by rw [e2]; unfold w32; simp
  have h3 : w32 x / 256 % 256 = (d3.toNat : Int) := by rw [e3]; unfold w32; simp
  have h4 : w32 x % 256 = (d4.toNat : Int) := by rw [e4]; unfold w32; simp
  clear e1 e2 e3 e4
  go_enter Try.func104, Try.ntmps104
  go_wp2_with (first | (first | (have hM0 := hM; clear hM; refine BigFrame.wpList_want (by rfl) fun K hK => ws_slice_row hM0 (n := 4) rfl 5 1 (.int .u8 0) [bv d1, bv d2, bv d3, bv d4] Try.underlying80 (by kernel_rfl) rfl (by simp [Value.cells, iv, sv, bv]) (by rfl) (by decide) (cs := bvs [d1, d2, d3, d4]) (by rfl) (fun g w hM => hK _ _ ?_); clear hM0 hK K) | fail) | (first | (refine BigFrame.wpList_want (by rfl) fun K hK => ws_string (l := [d1, d2, d3, d4]) rfl 5 Try.underlying80 Try.underlying9 Try.underlying5 rfl (by first | (apply Star.row hM; (repeat (first | assumption | (with_reducible exact mZ) | apply mS)); done) | (apply Star.own hM; (repeat (first | assumption | (with_reducible exact mZ) | apply mS)); done) | (apply Star.arr hM; (focus ((repeat (first | assumption | (with_reducible exact mZ) | apply mS)); done)); assumption)) (hK _ _ ?_); clear hK K) | fail))
  go_ret
  exact ⟨by rw [HW.out]; rfl, hM.sel (by repeat (first | (with_reducible exact Sel.refl) | (with_reducible exact Take.head) | (with_reducible apply Take.tail) | (with_reducible apply Sel.cons) | (with_reducible apply Sel.drop)))⟩
theorem ror7s {F : List SProp} (x : UInt32) (w : World) (hM : Star F w) : Calls Try.prog 120 #[.int .u32 (w32 x), .int .i64 7] w fun r w' => r = .returned (.int .u32 (w32 (rotr x 7))) ∧ Star F w' := (ror7 x w).mono fun _ _ ⟨h1, m, h2⟩ => ⟨h1, h2 ▸ hM.drewN m⟩
theorem ror18s {F : List SProp} (x : UInt32) (w : World) (hM : Star F w) : Calls Try.prog 120 #[.int .u32 (w32 x), .int .i64 18] w fun r w' => r = .returned (.int .u32 (w32 (rotr x 18))) ∧ Star F w' := (ror18 x w).mono fun _ _ ⟨h1, m, h2⟩ => ⟨h1, h2 ▸ hM.drewN m⟩
theorem ror17s {F : List SProp} (x : UInt32) (w : World) (hM : Star F w) : Calls Try.prog 120 #[.int .u32 (w32 x), .int .i64 17] w fun r w' => r = .returned (.int .u32 (w32 (rotr x 17))) ∧ Star F w' := (ror17 x w).mono fun _ _ ⟨h1, m, h2⟩ => ⟨h1, h2 ▸ hM.drewN m⟩
theorem ror19s {F : List SProp} (x : UInt32) (w : World) (hM : Star F w) : Calls Try.prog 120 #[.int .u32 (w32 x), .int .i64 19] w fun r w' => r = .returned (.int .u32 (w32 (rotr x 19))) ∧ Star F w' := (ror19 x w).mono fun _ _ ⟨h1, m, h2⟩ => ⟨h1, h2 ▸ hM.drewN m⟩
theorem ror6s {F : List SProp} (x : UInt32) (w : World) (hM : Star F w) : Calls Try.prog 120 #[.int .u32 (w32 x), .int .i64 6] w fun r w' => r = .returned (.int .u32 (w32 (rotr x 6))) ∧ Star F w' := (ror6 x w).mono fun _ _ ⟨h1, m, h2⟩ => ⟨h1, h2 ▸ hM.drewN m⟩
theorem ror11s {F : List SProp} (x : UInt32) (w : World) (hM : Star F w) : Calls Try.prog 120 #[.int .u32 (w32 x), .int .i64 11] w fun r w' => r = .returned (.int .u32 (w32 (rotr x 11))) ∧ Star F w' := (ror11 x w).mono fun _ _ ⟨h1, m, h2⟩ => ⟨h1, h2 ▸ hM.drewN m⟩
theorem ror25s {F : List SProp} (x : UInt32) (w : World) (hM : Star F w) : Calls Try.prog 120 #[.int .u32 (w32 x), .int .i64 25] w fun r w' => r = .returned (.int .u32 (w32 (rotr x 25))) ∧ Star F w' := (ror25 x w).mono fun _ _ ⟨h1, m, h2⟩ => ⟨h1, h2 ▸ hM.drewN m⟩
theorem ror2s {F : List SProp} (x : UInt32) (w : World) (hM : Star F w) : Calls Try.prog 120 #[.int .u32 (w32 x), .int .i64 2] w fun r w' => r = .returned (.int .u32 (w32 (rotr x 2))) ∧ Star F w' := (ror2 x w).mono fun _ _ ⟨h1, m, h2⟩ => ⟨h1, h2 ▸ hM.drewN m⟩
theorem ror13s {F : List SProp} (x : UInt32) (w : World) (hM : Star F w) : Calls Try.prog 120 #[.int .u32 (w32 x), .int .i64 13] w fun r w' => r = .returned (.int .u32 (w32 (rotr x 13))) ∧ Star F w' := (ror13 x w).mono fun _ _ ⟨h1, m, h2⟩ => ⟨h1, h2 ▸ hM.drewN m⟩
theorem ror22s {F : List SProp} (x : UInt32) (w : World) (hM : Star F w) : Calls Try.prog 120 #[.int .u32 (w32 x), .int .i64 22] w fun r w' => r = .returned (.int .u32 (w32 (rotr x 22))) ∧ Star F w' := (ror22 x w).mono fun _ _ ⟨h1, m, h2⟩ => ⟨h1, h2 ▸ hM.drewN m⟩
theorem Tail.some2 {w : World} {e : TypeId} {size : Nat} {A : Option Addr} {n c : Nat} {xs : List Value} (h : Tail w e size A n c xs) (hn : 0 < c) : ∃ g off, A = some ⟨g, off, none⟩ := by
  obtain ⟨_, _, _, ⟨_, h⟩ | ⟨g, off, _, h, _⟩⟩ := h
  · omega
  · exact ⟨g, off, h⟩
section
variable {P : Program} {w : World} {o : Oper} {a : Act} {Q : Exit → Act → World → Prop} {K : Act → World → Prop}
theorem ws_pure {v : Value} (hy : (execOp a.eval o).run P w = .ok (.value v) w) (h : K (a.put o.dst v) w) : Oper.wp P o a w K Q := by
  unfold Oper.wp
  rw [hy]
  exact h
theorem ws_rowloadT {ty : TypeId} {x : Operand} (ho : o.op = .load ty x) {g off k : Nat} (hx : a.eval x = .pointer (some ⟨g, off + k, none⟩)) {n : Nat} {xs : List Value} (hr : Rd w 1 (some ⟨g, off, none⟩) n xs) {v : Value} (hv : xs[k]? = some v)
    (hp : plainTy P ty = true) (h : K (a.put o.dst v) w) : Oper.wp P o a w K Q := ws_rowload ho (ad := ⟨g, off, none⟩) (k := k) (by rw [hx, add_lit]) hr hv hp h
theorem ex_rowloadT {ty : TypeId} {x : Operand} (ho : o.op = .load ty x) {g off k : Nat} (hx : a.eval x = .pointer (some ⟨g, off + k, none⟩)) {n : Nat} {xs : List Value} (hr : Rd w 1 (some ⟨g, off, none⟩) n xs) {v : Value} (hv : xs[k]? = some v)
    (hp : plainTy P ty = true) : (execOp a.eval o).run P w = .ok (.value v) w := ex_rowload ho (ad := ⟨g, off, none⟩) (k := k) (by rw [hx, add_lit]) hr hv hp
end
theorem drop4 (l : List UInt8) (k : Nat) (h : 4 * k + 4 ≤ l.length) : l.drop (4 * k) = l.getD (4 * k) 0 :: l.getD (4 * k + 1) 0 :: l.getD (4 * k + 2) 0 :: l.getD (4 * k + 3) 0 :: l.drop (4 * k + 4) := by
  have g : ∀ j, j < l.length → l.drop j = l.getD j 0 :: l.drop (j + 1) := fun j hj => by
    rw [List.drop_eq_getElem_cons hj, List.getD_eq_getElem?_getD, List.getElem?_eq_getElem hj]; rfl
  rw [g (4 * k) (by omega), g (4 * k + 1) (by omega), g (4 * k + 2) (by omega), g (4 * k + 3) (by omega)]
theorem wordAt_star {F : List SProp} (l : List UInt8) (k : Nat) (h : 4 * k + 4 ≤ l.length) (w : World) (hM : Star F w) :
    Calls Try.prog 123 #[.string ⟨(l.drop (4 * k)).toArray⟩] w fun r w' => r = .returned (.int .u32 (w32 (wordAt l k))) ∧ Star F w' := by
  rw [drop4 l k h]
  exact (word_any _ _ _ _ _ w).mono fun _ _ ⟨h1, m, h2⟩ => ⟨h1, h2 ▸ hM.drewN m⟩
end Go.Proofs.Ytlhedbjjlomniaa
set_option linter.unusedSimpArgs false
set_option linter.unusedVariables false
namespace Go.Proofs.Ytlhedbjjlomniaa
open Go.RowKit
attribute [local go_sem] extract_mid extract_drop bget bsize wrap64_u8 i64_u8 u64_u8 bappend
attribute [local go_sem] u32_add u32_add' u32_xor_w u32_and_w u32_or_w w32_shr3 w32_shr10 w32_quo3 w32_quo10
theorem sched_zero (l : List UInt8) : sched l 0 = [] := rfl
theorem sched_low (l : List UInt8) (k : Nat) (h : k < 16) : sched l (k + 1) = sched l k ++ [wordAt l k] := by simp [sched, h]
theorem sched_high (l : List UInt8) (k : Nat) (h : 16 ≤ k) : sched l (k + 1) = sched l k ++ [(sched l k).getD (k - 16) 0 + s0 ((sched l k).getD (k - 15) 0) + (sched l k).getD (k - 7) 0 + s1 ((sched l k).getD (k - 2) 0)] := by
  have h2 : ¬ k < 16 := by omega
  simp only [sched, if_neg h2, nextW, sched_len]
  congr 2
  ac_rfl
theorem sched_at (l : List UInt8) (k j : Nat) (h : j < k) : (wvs (sched l k))[j]? = some (.int .u32 (w32 ((sched l k).getD j 0))) := by
  refine wvs_get _ _ _ ?_
  rw [List.getD_eq_getElem?_getD, List.getElem?_eq_getElem (by rw [sched_len]; exact h)]
  rfl
attribute [local irreducible] sched
set_option maxRecDepth 100000 in
set_option maxHeartbeats 4000000 in
theorem schedule_star {F : List SProp} (l : List UInt8) (hl : l.length = 64) (w : World) (hM : Star F w) :
    Calls Try.prog 119 #[.string ⟨l.toArray⟩] w fun r w' => ∃ A c, r = .returned (.slice A 64 c) ∧ Star (rowE 1 A 64 (wvs (sched l 64)) :: F) w' := by
  have HL := Lib.hid hl
  have hl1 : 64 ≤ l.length := by omega
  have hl2 : l.length ≤ 64 := by omega
  clear hl
  go_enter Try.func119, Try.ntmps119
  go_wp2_with (first | (first | (have hM0 := hM; clear hM; refine BigFrame.wpList_want (by rfl) fun K hK => ws_slice_tail hM0 (n := 0) rfl 168 1 (.int .u32 0) [] Try.underlying178 (by kernel_rfl) rfl (by simp [Value.cells, iv, sv, bv]) (by rfl) (by decide) (by decide) (cs := []) (by rfl) (fun g1 w hM => hK _ _ ?_); clear hM0 hK K) | fail))
  go_loopw [3, 4] (fun v i wr => ∃ (k : Nat) (A : Option Addr) (c : Nat), k ≤ 16 ∧ i = .int .i64 k ∧ v = .slice A k c ∧ Star (tailE 168 1 A k c (wvs (sched l k)) :: F) wr) (fun _ i _ => 16 - (intOf i).toNat)
  case atStart => exact ⟨0, _, _, by omega, rfl, rfl, by rw [sched_zero]; exact hM⟩
  case round =>
    clear hM
    obtain ⟨k, A, c, hk, rfl, rfl, hM⟩ := hrel
    by_cases hlt : k < 16
    · obtain ⟨x, hx⟩ : ∃ x, x = wordAt l k := ⟨_, rfl⟩
      have hw := wordAt_star (F := tailE 168 1 A k c (wvs (sched l k)) :: F) l k (by omega)
      have hs := sched_low l k hlt
      rw [← hx] at hs hw
      have HW := Lib.hid hw
      have HS := Lib.hid hs
      clear hx hw hs
      go_wp2_with (first | (go_at_call 123; have hM0 := hM; clear hM; (first | (with_reducible refine (HW.out _ hM0).mono ?_) | fail); clear hM0; rintro _ w ⟨rfl, hM⟩) | (first | (have hM0 := hM; clear hM; refine BigFrame.wpList_want (by rfl) fun K hK => ws_slice_row hM0 (n := 1) rfl 168 1 (.int .u32 0) [.int .u32 (w32 x)] Try.underlying178 (by kernel_rfl) rfl (by simp [Value.cells, iv, sv, bv]) (by rfl) (by decide) (cs := wvs [x]) (by rfl) (fun g5 w hM => hK _ _ ?_); clear hM0 hK K) | fail) | (first | (have hM0 := hM; clear hM; refine BigFrame.wpList_want (by rfl) fun K hK => ws_app hM0 rfl rfl 168 ((.int .u32 0)) 1 4 Try.underlying178 (by kernel_rfl) (by rfl) (by (repeat (first | (with_reducible exact Take.head) | apply Take.tail)); first | done | fail) (src_row Try.underlying178 _ (hM0.row (by (repeat (first | assumption | (with_reducible exact mZ) | apply mS)); first | done | fail)) (wvs_one _)) ((by simp; omega)) (fun A3 c3 w hM => hK _ _ ?_); clear hM0 hK K; (try simp only [Nat.zero_add, Nat.add_zero, List.nil_append, List.append_nil, ← bvs_app] at hM)) | fail))
      go_roundw
      case rel => exact ⟨k + 1, A3, c3, by omega, by go_num, rfl, by rw [HS.out, wvs_app]; exact hM.sel (by repeat (first | (with_reducible exact Sel.refl) | (with_reducible exact Take.head) | (with_reducible apply Take.tail) | (with_reducible apply Sel.cons) | (with_reducible apply Sel.drop)))⟩
      case measure => simp [intOf]; omega
    · obtain rfl : k = 16 := by omega
      go_wp2_with fail
      obtain ⟨wq, rfl⟩ : ∃ wq : World, wq = wr := ⟨_, rfl⟩
      rw [show ((16 : Nat) : Int) = 16 from rfl]
      go_loopw [3, 5] (fun v i wr => ∃ (k : Nat) (A : Option Addr) (c : Nat), 16 ≤ k ∧ k ≤ 64 ∧ i = .int .i64 k ∧ v = .slice A k c ∧ Star (tailE 168 1 A k c (wvs (sched l k)) :: F) wr) (fun _ i _ => 64 - (intOf i).toNat)
      case atStart => exact ⟨16, _, _, by omega, by omega, rfl, rfl, hM⟩
      case round =>
        clear hM
        obtain ⟨k, A, c, hk16, hk, rfl, rfl, hM⟩ := hrel
        by_cases hlt : k < 64
        · have hT : Tail wr 168 1 A k c (wvs (sched l k)) := hM.head
          have hkc := hT.2.1
          have hcm : c ≤ 9223372036854775807 := by have := hT.2.2.1; unfold maxLen at this; exact this
          obtain ⟨gp, off, rfl⟩ := Tail.some2 hT (by omega)
          clear hT
          have hs := sched_high l k hk16
          have v16 := sched_at l k (k - 16) (by omega)
          have v15 := sched_at l k (k - 15) (by omega)
          have v7 := sched_at l k (k - 7) (by omega)
          have v2 := sched_at l k (k - 2) (by omega)
          generalize (sched l k).getD (k - 16) 0 = x16 at hs v16
          generalize (sched l k).getD (k - 15) 0 = x15 at hs v15
          generalize (sched l k).getD (k - 7) 0 = x7 at hs v7
          generalize (sched l k).getD (k - 2) 0 = x2 at hs v2
          obtain ⟨j16, e16⟩ : ∃ j, j = k - 16 := ⟨_, rfl⟩
          obtain ⟨j15, e15⟩ : ∃ j, j = k - 15 := ⟨_, rfl⟩
          obtain ⟨j7, e7⟩ : ∃ j, j = k - 7 := ⟨_, rfl⟩
          obtain ⟨j2, e2⟩ : ∃ j, j = k - 2 := ⟨_, rfl⟩
          rw [← e16] at v16
          rw [← e15] at v15
          rw [← e7] at v7
          rw [← e2] at v2
          have q16 : (k : Int) - 16 = (j16 : Int) := by omega
          have q15 : (k : Int) - 15 = (j15 : Int) := by omega
          have q7 : (k : Int) - 7 = (j7 : Int) := by omega
          have q2 : (k : Int) - 2 = (j2 : Int) := by omega
          have b16 : (j16 : Int) < (k : Int) := by omega
          have b15 : (j15 : Int) < (k : Int) := by omega
          have b7 : (j7 : Int) < (k : Int) := by omega
          have b2 : (j2 : Int) < (k : Int) := by omega
          have HS := Lib.hid hs
          have V16 := Lib.hid v16
          have V15 := Lib.hid v15
          have V7 := Lib.hid v7
          have V2 := Lib.hid v2
          clear hs v16 v15 v7 v2 e16 e15 e7 e2
          go_wp2_with (first | (first | (refine BigFrame.wpList_want (by rfl) fun K hK => ws_rowloadT rfl rfl (hM.tail_row (by (repeat (first | assumption | (with_reducible exact mZ) | apply mS)); first | done | fail)) V15.out (by kernel_rfl) (hK _ _ ?_); clear hK K) | fail) | (first | (refine BigFrame.wpList_want (by rfl) fun K hK => ws_rowloadT rfl rfl (hM.tail_row (by (repeat (first | assumption | (with_reducible exact mZ) | apply mS)); first | done | fail)) V2.out (by kernel_rfl) (hK _ _ ?_); clear hK K) | fail))
          have w16 : IntKind.i64.wrap (j16 : Int) = (j16 : Int) := IntWalk.i64_in _ (by omega)
          have w7 : IntKind.i64.wrap (j7 : Int) = (j7 : Int) := IntWalk.i64_in _ (by omega)
          (refine region_RS ([tailE 168 1 (some ⟨gp, off, none⟩) k c (wvs (sched l k))]) [31] (by kernel_rfl) hM ?_; clear hM; change RS _ _ _ _ _ _ 33 (Array.replicate 33 false) _ _; refine RS_take (i := 0) rfl (by decide +kernel) (fun _ _ _ h => h) (by first | (intro x hx; (repeat (first | exact hx | apply mS)); done) | ((repeat (refine List.forall_mem_cons.2 ⟨(by (repeat (first | assumption | (with_reducible exact mZ) | apply mS)); first | done | fail), ?_⟩)); intro x hx; first | (cases hx; done) | ((repeat (first | exact hx | apply mS)); done))) (stab_pure (by rfl) (fun w => (by go_simp; try with_reducible rfl))) ?_; simp only [Act.put, List.setIfInBounds_toArray, List.set_cons_zero, List.set_cons_succ]; refine RS_take (i := 1) rfl (by decide +kernel) (fun _ _ _ h => h) (by first | (intro x hx; (repeat (first | exact hx | apply mS)); done) | ((repeat (refine List.forall_mem_cons.2 ⟨(by (repeat (first | assumption | (with_reducible exact mZ) | apply mS)); first | done | fail), ?_⟩)); intro x hx; first | (cases hx; done) | ((repeat (first | exact hx | apply mS)); done))) (stab_pure (by rfl) (fun w => (by go_simp; try with_reducible rfl))) ?_; simp only [Act.put, List.setIfInBounds_toArray, List.set_cons_zero, List.set_cons_succ]; refine RS_take (i := 2) rfl (by decide +kernel) (fun _ _ _ h => h) (by first | (intro x hx; (repeat (first | exact hx | apply mS)); done) | ((repeat (refine List.forall_mem_cons.2 ⟨(by (repeat (first | assumption | (with_reducible exact mZ) | apply mS)); first | done | fail), ?_⟩)); intro x hx; first | (cases hx; done) | ((repeat (first | exact hx | apply mS)); done))) (stab_pure (by rfl) (fun w => (by go_simp; try with_reducible rfl))) ?_; simp only [Act.put, List.setIfInBounds_toArray, List.set_cons_zero, List.set_cons_succ]; refine RS_take (i := 3) rfl (by decide +kernel) (fun _ _ _ h => h) (by first | (intro x hx; (repeat (first | exact hx | apply mS)); done) | ((repeat (refine List.forall_mem_cons.2 ⟨(by (repeat (first | assumption | (with_reducible exact mZ) | apply mS)); first | done | fail), ?_⟩)); intro x hx; first | (cases hx; done) | ((repeat (first | exact hx | apply mS)); done))) (stab_pure (by rfl) (fun w => (by go_simp; try with_reducible rfl))) ?_; simp only [Act.put, List.setIfInBounds_toArray, List.set_cons_zero, List.set_cons_succ]; refine RS_take (i := 4) rfl (by decide +kernel) (fun _ _ _ h => h) (by first | (intro x hx; (repeat (first | exact hx | apply mS)); done) | ((repeat (refine List.forall_mem_cons.2 ⟨(by (repeat (first | assumption | (with_reducible exact mZ) | apply mS)); first | done | fail), ?_⟩)); intro x hx; first | (cases hx; done) | ((repeat (first | exact hx | apply mS)); done))) (stab_pure (by rfl) (fun w => (by go_simp; try with_reducible rfl))) ?_; simp only [Act.put, List.setIfInBounds_toArray, List.set_cons_zero, List.set_cons_succ]; refine RS_take (i := 5) rfl (by decide +kernel) (fun _ _ _ h => h) (by first | (intro x hx; (repeat (first | exact hx | apply mS)); done) | ((repeat (refine List.forall_mem_cons.2 ⟨(by (repeat (first | assumption | (with_reducible exact mZ) | apply mS)); first | done | fail), ?_⟩)); intro x hx; first | (cases hx; done) | ((repeat (first | exact hx | apply mS)); done))) (stab_read (by rfl) (fun L w hL hM => (ex_rowloadT rfl rfl (hM.tail_row (hL _ (by (repeat (first | assumption | (with_reducible exact mZ) | apply mS)); first | done | fail))) V16.out (by kernel_rfl)))) ?_; simp only [Act.put, List.setIfInBounds_toArray, List.set_cons_zero, List.set_cons_succ]; refine RS_take (i := 6) rfl (by decide +kernel) (fun _ _ _ h => h) (by first | (intro x hx; (repeat (first | exact hx | apply mS)); done) | ((repeat (refine List.forall_mem_cons.2 ⟨(by (repeat (first | assumption | (with_reducible exact mZ) | apply mS)); first | done | fail), ?_⟩)); intro x hx; first | (cases hx; done) | ((repeat (first | exact hx | apply mS)); done))) (stab_pure (by rfl) (fun w => (by go_simp; try with_reducible rfl))) ?_; simp only [Act.put, List.setIfInBounds_toArray, List.set_cons_zero, List.set_cons_succ]; refine RS_take (i := 7) rfl (by decide +kernel) (fun _ _ _ h => h) (by first | (intro x hx; (repeat (first | exact hx | apply mS)); done) | ((repeat (refine List.forall_mem_cons.2 ⟨(by (repeat (first | assumption | (with_reducible exact mZ) | apply mS)); first | done | fail), ?_⟩)); intro x hx; first | (cases hx; done) | ((repeat (first | exact hx | apply mS)); done))) (stab_call (by rfl) (fun w => (by go_simp; try with_reducible rfl)) (fun L w hL hM => (ror7s x15 w hM))) ?_; simp only [Act.put, List.setIfInBounds_toArray, List.set_cons_zero, List.set_cons_succ]; refine RS_take (i := 8) rfl (by decide +kernel) (fun _ _ _ h => h) (by first | (intro x hx; (repeat (first | exact hx | apply mS)); done) | ((repeat (refine List.forall_mem_cons.2 ⟨(by (repeat (first | assumption | (with_reducible exact mZ) | apply mS)); first | done | fail), ?_⟩)); intro x hx; first | (cases hx; done) | ((repeat (first | exact hx | apply mS)); done))) (stab_pure (by rfl) (fun w => (by go_simp; try with_reducible rfl))) ?_; simp only [Act.put, List.setIfInBounds_toArray, List.set_cons_zero, List.set_cons_succ]; refine RS_take (i := 9) rfl (by decide +kernel) (fun _ _ _ h => h) (by first | (intro x hx; (repeat (first | exact hx | apply mS)); done) | ((repeat (refine List.forall_mem_cons.2 ⟨(by (repeat (first | assumption | (with_reducible exact mZ) | apply mS)); first | done | fail), ?_⟩)); intro x hx; first | (cases hx; done) | ((repeat (first | exact hx | apply mS)); done))) (stab_call (by rfl) (fun w => (by go_simp; try with_reducible rfl)) (fun L w hL hM => (ror18s x15 w hM))) ?_; simp only [Act.put, List.setIfInBounds_toArray, List.set_cons_zero, List.set_cons_succ]; refine RS_take (i := 10) rfl (by decide +kernel) (fun _ _ _ h => h) (by first | (intro x hx; (repeat (first | exact hx | apply mS)); done) | ((repeat (refine List.forall_mem_cons.2 ⟨(by (repeat (first | assumption | (with_reducible exact mZ) | apply mS)); first | done | fail), ?_⟩)); intro x hx; first | (cases hx; done) | ((repeat (first | exact hx | apply mS)); done))) (stab_pure (by rfl) (fun w => (by go_simp; try with_reducible rfl))) ?_; simp only [Act.put, List.setIfInBounds_toArray, List.set_cons_zero, List.set_cons_succ]; refine RS_take (i := 11) rfl (by decide +kernel) (fun _ _ _ h => h) (by first | (intro x hx; (repeat (first | exact hx | apply mS)); done) | ((repeat (refine List.forall_mem_cons.2 ⟨(by (repeat (first | assumption | (with_reducible exact mZ) | apply mS)); first | done | fail), ?_⟩)); intro x hx; first | (cases hx; done) | ((repeat (first | exact hx | apply mS)); done))) (stab_pure (by rfl) (fun w => (by go_simp; try with_reducible rfl))) ?_; simp only [Act.put, List.setIfInBounds_toArray, List.set_cons_zero, List.set_cons_succ]; refine RS_take (i := 12) rfl (by decide +kernel) (fun _ _ _ h => h) (by first | (intro x hx; (repeat (first | exact hx | apply mS)); done) | ((repeat (refine List.forall_mem_cons.2 ⟨(by (repeat (first | assumption | (with_reducible exact mZ) | apply mS)); first | done | fail), ?_⟩)); intro x hx; first | (cases hx; done) | ((repeat (first | exact hx | apply mS)); done))) (stab_pure (by rfl) (fun w => (by go_simp; try with_reducible rfl))) ?_; simp only [Act.put, List.setIfInBounds_toArray, List.set_cons_zero, List.set_cons_succ]; refine RS_take (i := 13) rfl (by decide +kernel) (fun _ _ _ h => h) (by first | (intro x hx; (repeat (first | exact hx | apply mS)); done) | ((repeat (refine List.forall_mem_cons.2 ⟨(by (repeat (first | assumption | (with_reducible exact mZ) | apply mS)); first | done | fail), ?_⟩)); intro x hx; first | (cases hx; done) | ((repeat (first | exact hx | apply mS)); done))) (stab_pure (by rfl) (fun w => (by go_simp; try with_reducible rfl))) ?_; simp only [Act.put, List.setIfInBounds_toArray, List.set_cons_zero, List.set_cons_succ]; refine RS_take (i := 14) rfl (by decide +kernel) (fun _ _ _ h => h) (by first | (intro x hx; (repeat (first | exact hx | apply mS)); done) | ((repeat (refine List.forall_mem_cons.2 ⟨(by (repeat (first | assumption | (with_reducible exact mZ) | apply mS)); first | done | fail), ?_⟩)); intro x hx; first | (cases hx; done) | ((repeat (first | exact hx | apply mS)); done))) (stab_pure (by rfl) (fun w => (by go_simp; try with_reducible rfl))) ?_; simp only [Act.put, List.setIfInBounds_toArray, List.set_cons_zero, List.set_cons_succ]; refine RS_take (i := 15) rfl (by decide +kernel) (fun _ _ _ h => h) (by first | (intro x hx; (repeat (first | exact hx | apply mS)); done) | ((repeat (refine List.forall_mem_cons.2 ⟨(by (repeat (first | assumption | (with_reducible exact mZ) | apply mS)); first | done | fail), ?_⟩)); intro x hx; first | (cases hx; done) | ((repeat (first | exact hx | apply mS)); done))) (stab_pure (by rfl) (fun w => (by go_simp; try with_reducible rfl))) ?_; simp only [Act.put, List.setIfInBounds_toArray, List.set_cons_zero, List.set_cons_succ]; refine RS_take (i := 16) rfl (by decide +kernel) (fun _ _ _ h => h) (by first | (intro x hx; (repeat (first | exact hx | apply mS)); done) | ((repeat (refine List.forall_mem_cons.2 ⟨(by (repeat (first | assumption | (with_reducible exact mZ) | apply mS)); first | done | fail), ?_⟩)); intro x hx; first | (cases hx; done) | ((repeat (first | exact hx | apply mS)); done))) (stab_pure (by rfl) (fun w => (by go_simp; try with_reducible rfl))) ?_; simp only [Act.put, List.setIfInBounds_toArray, List.set_cons_zero, List.set_cons_succ]; refine RS_take (i := 17) rfl (by decide +kernel) (fun _ _ _ h => h) (by first | (intro x hx; (repeat (first | exact hx | apply mS)); done) | ((repeat (refine List.forall_mem_cons.2 ⟨(by (repeat (first | assumption | (with_reducible exact mZ) | apply mS)); first | done | fail), ?_⟩)); intro x hx; first | (cases hx; done) | ((repeat (first | exact hx | apply mS)); done))) (stab_pure (by rfl) (fun w => (by go_simp; try with_reducible rfl))) ?_; simp only [Act.put, List.setIfInBounds_toArray, List.set_cons_zero, List.set_cons_succ]; refine RS_take (i := 18) rfl (by decide +kernel) (fun _ _ _ h => h) (by first | (intro x hx; (repeat (first | exact hx | apply mS)); done) | ((repeat (refine List.forall_mem_cons.2 ⟨(by (repeat (first | assumption | (with_reducible exact mZ) | apply mS)); first | done | fail), ?_⟩)); intro x hx; first | (cases hx; done) | ((repeat (first | exact hx | apply mS)); done))) (stab_pure (by rfl) (fun w => (by go_simp; try with_reducible rfl))) ?_; simp only [Act.put, List.setIfInBounds_toArray, List.set_cons_zero, List.set_cons_succ]; refine RS_take (i := 19) rfl (by decide +kernel) (fun _ _ _ h => h) (by first | (intro x hx; (repeat (first | exact hx | apply mS)); done) | ((repeat (refine List.forall_mem_cons.2 ⟨(by (repeat (first | assumption | (with_reducible exact mZ) | apply mS)); first | done | fail), ?_⟩)); intro x hx; first | (cases hx; done) | ((repeat (first | exact hx | apply mS)); done))) (stab_read (by rfl) (fun L w hL hM => (ex_rowloadT rfl rfl (hM.tail_row (hL _ (by (repeat (first | assumption | (with_reducible exact mZ) | apply mS)); first | done | fail))) V7.out (by kernel_rfl)))) ?_; simp only [Act.put, List.setIfInBounds_toArray, List.set_cons_zero, List.set_cons_succ]; refine RS_take (i := 20) rfl (by decide +kernel) (fun _ _ _ h => h) (by first | (intro x hx; (repeat (first | exact hx | apply mS)); done) | ((repeat (refine List.forall_mem_cons.2 ⟨(by (repeat (first | assumption | (with_reducible exact mZ) | apply mS)); first | done | fail), ?_⟩)); intro x hx; first | (cases hx; done) | ((repeat (first | exact hx | apply mS)); done))) (stab_pure (by rfl) (fun w => (by go_simp; try with_reducible rfl))) ?_; simp only [Act.put, List.setIfInBounds_toArray, List.set_cons_zero, List.set_cons_succ]; refine RS_take (i := 21) rfl (by decide +kernel) (fun _ _ _ h => h) (by first | (intro x hx; (repeat (first | exact hx | apply mS)); done) | ((repeat (refine List.forall_mem_cons.2 ⟨(by (repeat (first | assumption | (with_reducible exact mZ) | apply mS)); first | done | fail), ?_⟩)); intro x hx; first | (cases hx; done) | ((repeat (first | exact hx | apply mS)); done))) (stab_pure (by rfl) (fun w => (by go_simp; try with_reducible rfl))) ?_; simp only [Act.put, List.setIfInBounds_toArray, List.set_cons_zero, List.set_cons_succ]; refine RS_take (i := 22) rfl (by decide +kernel) (fun _ _ _ h => h) (by first | (intro x hx; (repeat (first | exact hx | apply mS)); done) | ((repeat (refine List.forall_mem_cons.2 ⟨(by (repeat (first | assumption | (with_reducible exact mZ) | apply mS)); first | done | fail), ?_⟩)); intro x hx; first | (cases hx; done) | ((repeat (first | exact hx | apply mS)); done))) (stab_call (by rfl) (fun w => (by go_simp; try with_reducible rfl)) (fun L w hL hM => (ror17s x2 w hM))) ?_; simp only [Act.put, List.setIfInBounds_toArray, List.set_cons_zero, List.set_cons_succ]; refine RS_take (i := 23) rfl (by decide +kernel) (fun _ _ _ h => h) (by first | (intro x hx; (repeat (first | exact hx | apply mS)); done) | ((repeat (refine List.forall_mem_cons.2 ⟨(by (repeat (first | assumption | (with_reducible exact mZ) | apply mS)); first | done | fail), ?_⟩)); intro x hx; first | (cases hx; done) | ((repeat (first | exact hx | apply mS)); done))) (stab_pure (by rfl) (fun w => (by go_simp; try with_reducible rfl))) ?_; simp only [Act.put, List.setIfInBounds_toArray, List.set_cons_zero, List.set_cons_succ]; refine RS_take (i := 24) rfl (by decide +kernel) (fun _ _ _ h => h) (by first | (intro x hx; (repeat (first | exact hx | apply mS)); done) | ((repeat (refine List.forall_mem_cons.2 ⟨(by (repeat (first | assumption | (with_reducible exact mZ) | apply mS)); first | done | fail), ?_⟩)); intro x hx; first | (cases hx; done) | ((repeat (first | exact hx | apply mS)); done))) (stab_call (by rfl) (fun w => (by go_simp; try with_reducible rfl)) (fun L w hL hM => (ror19s x2 w hM))) ?_; simp only [Act.put, List.setIfInBounds_toArray, List.set_cons_zero, List.set_cons_succ]; refine RS_take (i := 25) rfl (by decide +kernel) (fun _ _ _ h => h) (by first | (intro x hx; (repeat (first | exact hx | apply mS)); done) | ((repeat (refine List.forall_mem_cons.2 ⟨(by (repeat (first | assumption | (with_reducible exact mZ) | apply mS)); first | done | fail), ?_⟩)); intro x hx; first | (cases hx; done) | ((repeat (first | exact hx | apply mS)); done))) (stab_pure (by rfl) (fun w => (by go_simp; try with_reducible rfl))) ?_; simp only [Act.put, List.setIfInBounds_toArray, List.set_cons_zero, List.set_cons_succ]; refine RS_take (i := 26) rfl (by decide +kernel) (fun _ _ _ h => h) (by first | (intro x hx; (repeat (first | exact hx | apply mS)); done) | ((repeat (refine List.forall_mem_cons.2 ⟨(by (repeat (first | assumption | (with_reducible exact mZ) | apply mS)); first | done | fail), ?_⟩)); intro x hx; first | (cases hx; done) | ((repeat (first | exact hx | apply mS)); done))) (stab_pure (by rfl) (fun w => (by go_simp; try with_reducible rfl))) ?_; simp only [Act.put, List.setIfInBounds_toArray, List.set_cons_zero, List.set_cons_succ]; refine RS_take (i := 27) rfl (by decide +kernel) (fun _ _ _ h => h) (by first | (intro x hx; (repeat (first | exact hx | apply mS)); done) | ((repeat (refine List.forall_mem_cons.2 ⟨(by (repeat (first | assumption | (with_reducible exact mZ) | apply mS)); first | done | fail), ?_⟩)); intro x hx; first | (cases hx; done) | ((repeat (first | exact hx | apply mS)); done))) (stab_pure (by rfl) (fun w => (by go_simp; try with_reducible rfl))) ?_; simp only [Act.put, List.setIfInBounds_toArray, List.set_cons_zero, List.set_cons_succ]; refine RS_take (i := 28) rfl (by decide +kernel) (fun _ _ _ h => h) (by first | (intro x hx; (repeat (first | exact hx | apply mS)); done) | ((repeat (refine List.forall_mem_cons.2 ⟨(by (repeat (first | assumption | (with_reducible exact mZ) | apply mS)); first | done | fail), ?_⟩)); intro x hx; first | (cases hx; done) | ((repeat (first | exact hx | apply mS)); done))) (stab_pure (by rfl) (fun w => (by go_simp; try with_reducible rfl))) ?_; simp only [Act.put, List.setIfInBounds_toArray, List.set_cons_zero, List.set_cons_succ]; refine RS_take (i := 29) rfl (by decide +kernel) (fun _ _ _ h => h) (by first | (intro x hx; (repeat (first | exact hx | apply mS)); done) | ((repeat (refine List.forall_mem_cons.2 ⟨(by (repeat (first | assumption | (with_reducible exact mZ) | apply mS)); first | done | fail), ?_⟩)); intro x hx; first | (cases hx; done) | ((repeat (first | exact hx | apply mS)); done))) (stab_pure (by rfl) (fun w => (by go_simp; try with_reducible rfl))) ?_; simp only [Act.put, List.setIfInBounds_toArray, List.set_cons_zero, List.set_cons_succ]; refine RS_one (i := 30) (by decide +kernel) rfl (by rfl) (.inl (by first | (intro x hx; (repeat (first | exact hx | apply mS)); done) | ((repeat (refine List.forall_mem_cons.2 ⟨(by (repeat (first | assumption | (with_reducible exact mZ) | apply mS)); first | done | fail), ?_⟩)); intro x hx; first | (cases hx; done) | ((repeat (first | exact hx | apply mS)); done)))) (fun w K hM0 hK => ?_); refine ws_slice_row hM0 (n := 1) rfl 168 1 (.int .u32 0) [.int .u32 (w32 (x16 + s0 x15 + x7 + s1 x2))] Try.underlying178 (by kernel_rfl) rfl (by simp [Value.cells, iv, sv, bv]) (by rfl) (by decide) (cs := wvs [x16 + s0 x15 + x7 + s1 x2]) (by rfl) (fun g6 w hM => hK _ _ _ hM ?_); clear hM hM0 hK K; simp only [Act.put, List.setIfInBounds_toArray, List.set_cons_zero, List.set_cons_succ]; refine RS_one (i := 31) (by decide +kernel) rfl (by rfl) (.inl (by first | (intro x hx; (repeat (first | exact hx | apply mS)); done) | ((repeat (refine List.forall_mem_cons.2 ⟨(by (repeat (first | assumption | (with_reducible exact mZ) | apply mS)); first | done | fail), ?_⟩)); intro x hx; first | (cases hx; done) | ((repeat (first | exact hx | apply mS)); done)))) (fun w K hM0 hK => ?_); refine ws_app hM0 rfl rfl 168 ((.int .u32 0)) 1 4 Try.underlying178 (by kernel_rfl) (by rfl) (by (repeat (first | (with_reducible exact Take.head) | apply Take.tail)); first | done | fail) (src_row Try.underlying178 _ (hM0.row (by (repeat (first | assumption | (with_reducible exact mZ) | apply mS)); first | done | fail)) (wvs_one _)) ((by simp; omega)) (fun A3 c3 w hM => hK _ _ _ hM ?_); clear hM hM0 hK K; simp only [Act.put, List.setIfInBounds_toArray, List.set_cons_zero, List.set_cons_succ]; refine RS_one (i := 32) (by decide +kernel) rfl (by rfl) (.inr (by decide +kernel)) (fun w K hM0 hK => ws_pure (by go_simp; try with_reducible rfl) (hK _ _ _ hM0 ?_)); clear hM0 hK K; simp only [Act.put, List.setIfInBounds_toArray, List.set_cons_zero, List.set_cons_succ]; refine RS_done (by decide +kernel) (.inr (by decide +kernel)) (fun w hM => ?_))
          go_wp2
          go_roundw
          case rel => exact ⟨k + 1, A3, c3, by omega, by omega, by go_num, rfl, by rw [HS.out, wvs_app]; exact hM.sel (by repeat (first | (with_reducible exact Sel.refl) | (with_reducible exact Take.head) | (with_reducible apply Take.tail) | (with_reducible apply Sel.cons) | (with_reducible apply Sel.drop)))⟩
          case measure => simp [intOf]; omega
        · obtain rfl : k = 64 := by omega
          replace hM := hM.tail_freeze
          go_wp2_with fail
          go_ret
          exact ⟨_, _, rfl, hM⟩
end Go.Proofs.Ytlhedbjjlomniaa
