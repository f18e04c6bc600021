/- hash.spread: the 64 words of a block are the schedule. Condition: the slice has 64 bytes. -/
import Derived.Test.YthjceppddmecdaaTurn
import Derived.StillTailTactics
set_option linter.unusedSimpArgs false
set_option linter.unusedVariables false
namespace Go.Proofs.Ythjceppddmecdaa
open Go.RowKit
attribute [local go_sem] extract_mid extract_drop bget bsize wrap64_u8 i64_u8 u64_u8 bappend
attribute [local go_sem] u8m32 u32_add u32_add' u32_xor_w u32_and_w u32_or_w w32_shr3 w32_shr10
@[irreducible] def z64 : List UInt32 := List.replicate 64 0
theorem z64_len : z64.length = 64 := by unfold z64; simp
theorem info_w64 : (Try.prog.info? 110).map (fun i => i.zero) = some (some (.agg (wvs z64).toArray)) := by kernel_rfl
theorem info_w64n : (Try.prog.info? 110).map (·.size) = some 64 := by kernel_rfl
theorem w64sz (l : List UInt32) (h : l.length = 64) : (Try.prog.info? 110).map (·.size) = some (wvs l).toArray.size := by rw [info_w64n]; simp [wvs_len, h]
theorem wset (A R : List UInt32) (x y : UInt32) (k : Nat) (h : A.length = k) : (wvs (A ++ x :: R)).toArray.setIfInBounds k (.int .u32 (w32 y)) = (wvs (A ++ y :: R)).toArray := by
  subst h
  simp only [List.setIfInBounds_toArray]
  congr 1
  simp [wvs, wv]
theorem wget {w : World} {g : Nat} {t : TypeId} {l : List UInt32} (h : Blk w g t (wvs l).toArray) (j : Nat) (x : UInt32) (hx : l[j]? = some x) : w.cell? ⟨g, j, none⟩ = some (.int .u32 (w32 x)) := by
  rw [h.cell]; simpa using wvs_get l j x hx
def part (l : List UInt8) : UInt32 := UInt32.ofNat (numOf l)
theorem part_step (l : List UInt8) (c : UInt8) (h : l.length ≤ 3) : bits BinOp.or IntKind.u32 (w32 (part l) * 256 % 4294967296) (c.toNat : Int) = w32 (part (l ++ [c])) := by
  have h1 := numOf_lt l
  have h2 : 256 ^ l.length ≤ 256 ^ 3 := Nat.pow_le_pow_right (by omega) h
  have hc := c.toNat_lt
  have e1 : (part l).toNat = numOf l := by unfold part; rw [UInt32.toNat_ofNat_of_lt' (by simp [UInt32.size]; omega)]
  have e2 : (part (l ++ [c])).toNat = numOf l * 256 + c.toNat := by unfold part; rw [numOf_snoc, UInt32.toNat_ofNat_of_lt' (by simp [UInt32.size]; omega)]
  unfold w32
  rw [e1, e2, show ((numOf l : Int) * 256 % 4294967296) = ((numOf l * 256 : Nat) : Int) by omega, u32_or_nat _ _ (by omega) (by omega)]
  have e3 : numOf l * 256 = numOf l <<< 8 := by rw [Nat.shiftLeft_eq]
  rw [e3, ← Nat.shiftLeft_add_eq_or_of_lt (by omega)]
theorem part_word (b : List UInt8) (i : Nat) (h : 4 * i + 4 ≤ b.length) : part ((b.drop (4 * i)).take 4) = wordAt b i := by
  have e : (b.drop (4 * i)).take 4 = [b.getD (4 * i) 0, b.getD (4 * i + 1) 0, b.getD (4 * i + 2) 0, b.getD (4 * i + 3) 0] := by
    apply List.ext_getElem?
    intro j
    rcases (by omega : j = 0 ∨ j = 1 ∨ j = 2 ∨ j = 3 ∨ 4 ≤ j) with rfl | rfl | rfl | rfl | hj
    · simp [List.getElem?_take, List.getElem?_drop, List.getElem?_eq_getElem (show 4 * i < b.length by omega)]
    · simp [List.getElem?_take, List.getElem?_drop, List.getElem?_eq_getElem (show 4 * i + 1 < b.length by omega)]
    · simp [List.getElem?_take, List.getElem?_drop, List.getElem?_eq_getElem (show 4 * i + 2 < b.length by omega)]
    · simp [List.getElem?_take, List.getElem?_drop, List.getElem?_eq_getElem (show 4 * i + 3 < b.length by omega)]
    · rw [List.getElem?_eq_none (by simp; omega), List.getElem?_eq_none (by simp; omega)]
  rw [e]
  unfold part wordAt word4
  refine congrArg UInt32.ofNat ?_
  simp only [numOf, List.foldl_cons, List.foldl_nil]
  omega
set_option maxRecDepth 100000 in
set_option maxHeartbeats 1000000 in
theorem spread_any (b : List UInt8) (ad : Addr) (c : Nat) (hb : b.length = 64) (hc : 64 ≤ c) (hc2 : c ≤ 9223372036854775807) (w : World) (hR : Rd w 1 (some ad) 64 (bvs b)) :
    Calls Try.prog 76 #[.slice (some ad) 64 c] w fun r w' => r = .returned (.agg (wvs (sched b 64)).toArray) ∧ Ch [] w w' := by
  have tok1 : True := trivial
  go_enter Try.func76, Try.ntmps76
  go_wp2_with (first | (have _t := tok1; refine op_alloc rfl 110 rfl (wvs z64).toArray info_w64 ?_; intro g w1 hb1 hg hlt hC1; clear tok1) | (refine op_alloc rfl 110 rfl (wvs z64).toArray info_w64 ?_; intro g2 w2 hb2 hg2 hlt2 hC2))
  have hgg := hb1.lt
  have hgg' := hg
  replace hb1 := hb1.ch0 hC2
  have hgw : g < g2 := by omega
  have hg2' : w.heap.size ≤ g2 := by omega
  have hadlt : ad.block < w.heap.size := by obtain ⟨ad', e, h1, _⟩ := hR.2 (by omega); cases e; exact h1
  have hC := hC1.trans hC2
  clear hC1 hC2
  go_loopw [9] (fun i wr => ∃ (k : Nat), k ≤ 64 ∧ i = .int .i64 k ∧ Blk wr g2 110 (wvs (sched b k ++ List.replicate (64 - k) 0)).toArray ∧ Ch [g2] w2 wr) (fun i _ => 64 - (intOf i).toNat)
  case atStart => exact ⟨0, by omega, rfl, by simpa [sched, z64] using hb2, Ch.refl _ _⟩
  case round =>
    obtain ⟨k, hk, rfl, hbk, hCk⟩ := hrel
    by_cases hlt : k < 64
    · by_cases h16 : k < 16
      · have hRr : Rd wr 1 (some ad) 64 (bvs b) := (hR.ch0 hC).ch hCk (by rintro a ha; cases ha; simp; omega)
        have hrep : List.replicate (64 - k) (0 : UInt32) = 0 :: List.replicate (63 - k) 0 := by rw [show 64 - k = (63 - k) + 1 by omega]; rfl
        have hbk2 : Blk wr g2 110 (wvs (sched b k ++ part ((b.drop (4 * k)).take 0) :: List.replicate (63 - k) 0)).toArray := by rw [hrep] at hbk; exact hbk
        clear hbk hrep
        go_wp2
        obtain ⟨wo, rfl⟩ : ∃ wo : World, wo = wr := ⟨_, rfl⟩
        go_loopw [22] (fun j wr => ∃ (m : Nat), m ≤ 4 ∧ j = .int .i64 m ∧ Blk wr g2 110 (wvs (sched b k ++ part ((b.drop (4 * k)).take m) :: List.replicate (63 - k) 0)).toArray ∧ Ch [g2] w2 wr) (fun j _ => 4 - (intOf j).toNat)
        case atStart => exact ⟨0, by omega, rfl, hbk2, hCk⟩
        case round =>
          obtain ⟨m, hm, rfl, hbm, hCm⟩ := hrel
          by_cases hm4 : m < 4
          · have hRm : Rd wr 1 (some ad) 64 (bvs b) := (hR.ch0 hC).ch hCm (by rintro a ha; cases ha; simp; omega)
            obtain ⟨ad', d, hA, hcell, hget, _⟩ := Rd.elem (f := bv) (k := 4 * k + m) hRm (by omega)
            obtain rfl : ad = ad' := by injection hA
            have hcell2 : wr.cell? ((ad.add (4 * k)).add m) = some (.int .u8 (d.toNat : Int)) := by rw [add_of_add]; exact hcell
            have htk : (b.drop (4 * k)).take (m + 1) = (b.drop (4 * k)).take m ++ [d] := take_snoc_at _ _ _ (by rw [List.getElem?_drop]; exact hget)
            have hgk := wget hbm k (part ((b.drop (4 * k)).take m)) (by rw [List.getElem?_append_right (by rw [sched_len]; omega), sched_len]; simp)
            have hfk := hbm.frozen k
            have hor := part_step ((b.drop (4 * k)).take m) d (by simp; omega)
            have HT := Lib.hid htk
            have HO := Lib.hid hor
            have hset := hbm.set_ k (.int .u32 (w32 (part ((b.drop (4 * k)).take m ++ [d]))))
            rw [wset _ _ _ _ k (sched_len b k)] at hset
            have HS := Lib.hid hset
            clear htk hor hset hget hcell hbm
            go_wp2
            go_roundw
            case rel => exact ⟨m + 1, by omega, by go_num, by rw [HT.out, HO.out]; exact HS.out, hCm.setCell (.inl (by simp)) _⟩
            case measure => simp [intOf]; omega
          · obtain rfl : m = 4 := by omega
            have hnx : sched b k ++ part ((b.drop (4 * k)).take 4) :: List.replicate (63 - k) 0 = sched b (k + 1) ++ List.replicate (64 - (k + 1)) 0 := by
              rw [part_word b k (by omega)]
              simp only [sched, if_pos h16, List.append_assoc, List.singleton_append]
              rw [show 64 - (k + 1) = 63 - k by omega]
            have HX := Lib.hid hnx
            clear hnx
            go_wp2
            go_roundw
            case rel => exact ⟨k + 1, by omega, by go_num, by rw [← HX.out]; exact hbm, hCm⟩
            case measure => simp [intOf]; omega
      · as_aux_lemma =>
        have hw : ∀ j, j < k → ∃ x, (sched b k)[j]? = some x ∧ wr.cell? ⟨g2, j, none⟩ = some (.int .u32 (w32 x)) := fun j hj => by
          have hl : j < (sched b k).length := by rw [sched_len]; exact hj
          exact ⟨(sched b k)[j], List.getElem?_eq_getElem hl, wget hbk j _ (by rw [List.getElem?_append_left hl]; exact List.getElem?_eq_getElem hl)⟩
        obtain ⟨x16, e16, c16⟩ := hw (k - 16) (by omega)
        obtain ⟨x15, e15, c15⟩ := hw (k - 15) (by omega)
        obtain ⟨x7, e7, c7⟩ := hw (k - 7) (by omega)
        obtain ⟨x2, e2, c2⟩ := hw (k - 2) (by omega)
        have hgk := wget hbk k 0 (by rw [List.getElem?_append_right (by rw [sched_len]; omega), sched_len, Nat.sub_self, show 64 - k = (63 - k) + 1 by omega]; rfl)
        have hfk := hbk.frozen k
        have hnext : sched b (k + 1) = sched b k ++ [x16 + x7 + s0 x15 + s1 x2] := by
          simp only [sched, if_neg h16, nextW, sched_len]
          simp [List.getD_eq_getElem?_getD, e16, e15, e7, e2]
        have hset1 := hbk.set_ k (.int .u32 (w32 (x16 + x7)))
        rw [show 64 - k = (63 - k) + 1 by omega, List.replicate_succ, wset _ _ _ _ k (sched_len b k)] at hset1
        have HS1 := Lib.hid hset1
        have HN := Lib.hid hnext
        clear hset1 hnext e16 e15 e7 e2 hw hbk
        go_wp2
        go_region
        all_goals (go_wp2; go_region)
        go_wp2
        obtain ⟨w12, hW⟩ : ∃ x, x = World.drew (World.drew (wr.setCell ⟨g2, k, none⟩ (.int .u32 (w32 (x16 + x7))))) := ⟨_, rfl⟩
        rw [← hW]
        have g12 : w12.cell? ⟨g2, k, none⟩ = some (.int .u32 (w32 (x16 + x7))) := by rw [hW]; simp [go_sem, hgk]
        have f12 : w12.frozen? ⟨g2, k, none⟩ = false := by rw [hW]; simp [go_sem, hfk]
        have b12 : Blk w12 g2 110 (wvs (sched b k ++ (x16 + x7) :: List.replicate (63 - k) 0)).toArray := by rw [hW]; exact HS1.out
        have C12 : Ch [g2] w2 w12 := by rw [hW]; exact ((hCk.setCell (.inl (by simp)) _).drewN 2)
        clear hW
        (refine wp_region_still_tail 13 (by as_aux_lemma => kernel_rfl) (by as_aux_lemma => kernel_rfl) ?_; simp only [List.take_succ_cons, List.take_zero, List.drop_succ_cons, List.drop_zero]; change wpStill _ _ (World.drew _) _ _ _; repeat still_step); (still_call ((turn7 _ _).mono fun _ _ h => ⟨h.1, h.2.symm⟩); repeat still_step); (still_call ((turn18 _ _).mono fun _ _ h => ⟨h.1, h.2.symm⟩); repeat still_step); (refine wpStill_nil ?_; change wpList _ _ _ _ _ (World.drew _))
        go_wp2
        obtain ⟨w13, hW⟩ : ∃ x, x = World.drew (w12.setCell ⟨g2, k, none⟩ (.int .u32 (w32 (x16 + x7 + (rotr x15 7 ^^^ rotr x15 18 ^^^ shr32 x15 3))))) := ⟨_, rfl⟩
        rw [← hW]
        have g13 : w13.cell? ⟨g2, k, none⟩ = some (.int .u32 (w32 (x16 + x7 + (rotr x15 7 ^^^ rotr x15 18 ^^^ shr32 x15 3)))) := by rw [hW]; simp [go_sem, g12]
        have f13 : w13.frozen? ⟨g2, k, none⟩ = false := by rw [hW]; simp [go_sem, f12]
        have b13 : Blk w13 g2 110 (wvs (sched b k ++ (x16 + x7 + (rotr x15 7 ^^^ rotr x15 18 ^^^ shr32 x15 3)) :: List.replicate (63 - k) 0)).toArray := by
          rw [hW]
          have := b12.set_ k (.int .u32 (w32 (x16 + x7 + (rotr x15 7 ^^^ rotr x15 18 ^^^ shr32 x15 3))))
          rw [wset _ _ _ _ k (sched_len b k)] at this
          exact this
        have C13 : Ch [g2] w2 w13 := by rw [hW]; exact ((C12.setCell (.inl (by simp)) _).drew)
        clear hW g12 f12 b12 C12
        (refine wp_region_still_tail 13 (by as_aux_lemma => kernel_rfl) (by as_aux_lemma => kernel_rfl) ?_; simp only [List.take_succ_cons, List.take_zero, List.drop_succ_cons, List.drop_zero]; change wpStill _ _ (World.drew _) _ _ _; repeat still_step); (still_call ((turn17 _ _).mono fun _ _ h => ⟨h.1, h.2.symm⟩); repeat still_step); (still_call ((turn19 _ _).mono fun _ _ h => ⟨h.1, h.2.symm⟩); repeat still_step); (refine wpStill_nil ?_; change wpList _ _ _ _ _ (World.drew _))
        go_wp2
        go_roundw
        case rel =>
          refine ⟨k + 1, by omega, by go_num, ?_, ((C13.setCell (.inl (by simp)) _).drew)⟩
          rw [HN.out, List.append_assoc, show 64 - (k + 1) = 63 - k by omega]
          have := b13.set_ k (.int .u32 (w32 (x16 + x7 + s0 x15 + s1 x2)))
          rw [wset _ _ _ _ k (sched_len b k)] at this
          exact this
        case measure => simp [intOf]; omega
    · obtain rfl : k = 64 := by omega
      obtain ⟨sc, hsc⟩ : ∃ l, l = sched b 64 := ⟨_, rfl⟩
      have hsl : sc.length = 64 := by rw [hsc, sched_len]
      have hb3 : Blk wr g2 110 (wvs sc).toArray := by rw [hsc]; simpa using hbk
      have hb1' := hb1.ch hCk (by simp; omega)
      clear hbk
      go_wp2_with (first | (refine op_load rfl 110 (.tmp 3) rfl g2 rfl 110 (wvs sc).toArray _ hb3 Try.underlying110 rfl (w64sz _ hsl) ?_) | (refine op_store rfl 110 (.tmp 2) (.tmp 82) rfl g rfl 110 (wvs sc).toArray (wvs z64).toArray rfl hb1' (by simp [wvs_len, hsl, z64_len]) (w64sz _ hsl) (by simpa using wvs_one sc) ?_; intro w4 hb4 hC4))
      refine bodyPost_ret (results_cell_row rfl _ _ g 110 (wvs sc).toArray (0, 0) _ rfl hb4 Try.underlying110 rfl (w64sz _ hsl)) rfl ⟨by rw [hsc], ?_⟩
      exact (hC.one hCk (.inr hg2')).one hC4 (.inr hgg')
end Go.Proofs.Ythjceppddmecdaa
