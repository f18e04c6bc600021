/- hash.block: a block is mixed into the state. Condition: the slice has 64 bytes and lies outside the state. -/
import Derived.Test.YthjceppddmecdaaRounds
import Derived.Test.YthjceppddmecdaaRegion
set_option linter.unusedSimpArgs false
set_option linter.unusedVariables false
namespace Go.Proofs.Ythjceppddmecdaa
open Go.RowKit
attribute [local go_sem] extract_mid extract_drop bget bsize wrap64_u8 i64_u8 u64_u8 bappend
attribute [local go_sem] u8m32 u32_add u32_add' u32_xor_w u32_and_w u32_or_w
def z8 : List UInt32 := List.replicate 8 0
theorem info_w8 : (Try.prog.info? 102).map (fun i => i.zero) = some (some (.agg (wvs z8).toArray)) := by kernel_rfl
theorem info_w8n : (Try.prog.info? 102).map (·.size) = some 8 := by kernel_rfl
theorem w8sz (s : W8) : (Try.prog.info? 102).map (·.size) = some (wvs s.list).length := by rw [info_w8n]; rfl
theorem rnds_zero (l : List UInt32) (s : W8) : rnds l s 0 = s := rfl
theorem rnds_succ (l : List UInt32) (s : W8) (k : Nat) : rnds l s (k + 1) = rnd (K64.getD k 0) (l.getD k 0) (rnds l s k) := rfl
theorem mix_def (s : W8) (b : List UInt8) : mix s b = s.add (rnds (sched b 64) s 64) := rfl
theorem u32_not (x : UInt32) : bits BinOp.xor IntKind.u32 IntKind.u32.max (w32 x) = w32 (~~~x) := by
  have h : IntKind.u32.max = w32 4294967295 := by decide
  rw [h, u32_xor_w]
  refine congrArg w32 (UInt32.toBitVec_inj.1 ?_)
  rw [UInt32.toBitVec_xor, UInt32.toBitVec_not]
  exact BitVec.allOnes_xor
attribute [local go_sem] u32_not
theorem turn_any (x : UInt32) (n : Int) (hn : n = 6 ∨ n = 11 ∨ n = 25 ∨ n = 2 ∨ n = 13 ∨ n = 22) (w : World) : Calls Try.prog 77 #[.int .u32 (w32 x), .int .i64 n] w fun r w' => r = .returned (.int .u32 (w32 (rotr x n.toNat))) ∧ w = w' := by
  rcases hn with rfl | rfl | rfl | rfl | rfl | rfl
  · exact turn6 x w
  · exact turn11 x w
  · exact turn25 x w
  · exact turn2 x w
  · exact turn13 x w
  · exact turn22 x w
def addUp (s t : W8) (j : Nat) : List UInt32 := (s.add t).list.take j ++ s.list.drop j
theorem addUp_get (s t : W8) (j : Nat) (h : j < 8) : ∃ x y, (addUp s t j)[j]? = some x ∧ t.list[j]? = some y ∧ (addUp s t j).set j (x + y) = addUp s t (j + 1) ∧ (addUp s t j).length = 8 := by
  rcases (by omega : j = 0 ∨ j = 1 ∨ j = 2 ∨ j = 3 ∨ j = 4 ∨ j = 5 ∨ j = 6 ∨ j = 7) with rfl | rfl | rfl | rfl | rfl | rfl | rfl | rfl <;> exact ⟨_, _, rfl, rfl, rfl, rfl⟩
theorem wset2 (l : List UInt32) (R : List Value) (z : UInt32) (k : Nat) (h : k < l.length) : (wvs l ++ R).toArray.setIfInBounds k (.int .u32 (w32 z)) = (wvs (l.set k z) ++ R).toArray := by
  simp only [List.setIfInBounds_toArray]
  congr 1
  rw [List.set_append, if_pos (by rw [wvs_len]; exact h)]
  simp [wvs, List.map_set, wv]
attribute [local irreducible] sched rnds mix
theorem info_u32n : (Try.prog.info? 95).map (·.size) = some 1 := by kernel_rfl
theorem op_index {P : Program} {w : World} {ops : Array Oper} {rest : List Oper} {o : Oper} {a : Act} {Q : Exit → Act → World → Prop} (hgd : o.guard = none) (t : TypeId) (x y : Operand) (ho : o.op = .index t x y) (cs : List Value) (hx : a.eval x = .agg cs.toArray) (k : Nat) (hy : a.eval y = .int .i64 (k : Int)) (n : Nat) (e : TypeId) (ik : IntKind)
    (ht : P.underlying t = some (.array n e)) (he : P.underlying e = some (.int ik)) (hi : (P.info? e).map (·.size) = some 1) (v : Value) (hv : cs[k]? = some v) (hk : k < n) (h : wpList P ops Q rest (a.put o.dst v) w) : wpList P ops Q (o :: rest) a w := by
  refine wpList_plain hgd fun K hK => ?_
  have hrun : (Instr.index t (.agg cs.toArray) (.int .i64 (k : Int))).run P w = .ok v w := by
    cases hq : P.info? e with
    | none => simp [hq] at hi
    | some i =>
      have hs : i.size = 1 := by simpa [hq] using hi
      have hagg : (isAgg e).run P w = .ok false w := by
        unfold isAgg
        rw [Sem.run_bind, run_underlying he w]
        rfl
      have hk2 : (0 : Int) ≤ (k : Int) ∧ (k : Int) < (n : Int) := by omega
      have hv2 : cs.toArray[k]? = some v := by simpa using hv
      simp [Instr.index, asIntOf, run_underlying ht, hk2, sizeOf, typeInfo, hq, hs]
      rw [if_pos hk]
      simp [Go.part, hagg, hv]
  unfold Oper.wp
  simp only [execOp, ho, Sem.run_bind, hx, hy, hrun, Result.andThen_ok, Sem.run_pure]
  exact hK _ _ h
set_option maxRecDepth 100000 in
set_option maxHeartbeats 8000000 in
theorem block_any (s : W8) (x8 x9 : Value) (b : List UInt8) (ad : Addr) (c g : Nat) (hb : b.length = 64) (hc : 64 ≤ c) (hc2 : c ≤ 9223372036854775807) (w : World)
    (hS : Blk w g 104 (wvs s.list ++ [x8, x9]).toArray) (hR : Rd w 1 (some ad) 64 (bvs b)) (hne : ad.block ≠ g) :
    Calls Try.prog 70 #[.pointer (some ⟨g, 0, none⟩), .slice (some ad) 64 c] w fun r w' => r = .returned (.tuple #[]) ∧ Blk w' g 104 (wvs (mix s b).list ++ [x8, x9]).toArray ∧ Ch [g] w w' := by
  go_enter Try.func70, Try.ntmps70
  go_wp2
  generalize hA0 : Act.mk _ _ = A0
  refine region_inv (fun L a w' => ∃ s4 s5 s13 s14 s15 s16 s17, a = ((((((A0.put (some 4) s4).put (some 5) s5).put (some 13) s13).put (some 14) s14).put (some 15) s15).put (some 16) s16).put (some 17) s17 ∧
    (L.getD 0 false = true → s13 = .pointer (some ⟨g, 0, none⟩)) ∧ (L.getD 1 false = true → s14 = .pointer (some ⟨g, 0, none⟩)) ∧ (L.getD 2 false = true → s15 = .pointer (some ⟨g, 0, none⟩)) ∧
    (L.getD 3 false = true → s16 = .agg (wvs s.list).toArray) ∧ (L.getD 4 false = true → s17 = .agg (wvs K64).toArray) ∧
    (L.getD 5 false = true → ∃ g4, s4 = .pointer (some ⟨g4, 0, none⟩) ∧ w.heap.size ≤ g4 ∧ Blk w' g4 102 (wvs (if L.getD 7 false then s.list else z8)).toArray) ∧
    (L.getD 6 false = true → ∃ g5, s5 = .pointer (some ⟨g5, 0, none⟩) ∧ w.heap.size ≤ g5 ∧ Blk w' g5 110 (wvs (if L.getD 8 false then K64 else z64)).toArray) ∧
    (L.getD 7 false = true → L.getD 5 false = true) ∧ (L.getD 8 false = true → L.getD 6 false = true) ∧ Ch [] w w') (by kernel_rfl) (by kernel_rfl) ?_ ?_ ?_
  · refine ⟨undef, undef, undef, undef, undef, undef, undef, ?_, ?_, ?_, ?_, ?_, ?_, ?_, ?_, ?_, ?_, (Ch.refl _ _).drew⟩
    · subst hA0
      simp only [Act.put, List.setIfInBounds_toArray, List.set_cons_zero, List.set_cons_succ]
    all_goals (intro h; simp at h)
  · intro L a w' hs ⟨s4, s5, s13, s14, s15, s16, s17, ha, f0, f1, f2, f3, f4, f5, f6, f7, f8, hC⟩ i o ho hbi hd K hK
    have hs : L.size = 9 := hs
    have hi : i < 9 := by
      rcases Nat.lt_or_ge i 9 with h | h
      · exact h
      · rw [Array.getElem?_eq_none (by simpa using h)] at ho; cases ho
    have hbi' : L.getD i false = false := by
      have : i < L.size := by omega
      simpa [Array.getD, this] using hbi
    have b7 : L.getD 5 false = false → L.getD 7 false = false := fun h => by
      rcases h7 : L.getD 7 false with _ | _
      · rfl
      · rw [f7 h7] at h; cases h
    have b8 : L.getD 6 false = false → L.getD 8 false = false := fun h => by
      rcases h7 : L.getD 8 false with _ | _
      · rfl
      · rw [f8 h7] at h; cases h
    have b7' : L.getD 7 false = false → L.getD 7 false = false := id
    have b8' : L.getD 8 false = false → L.getD 8 false = false := id
    subst ha hA0
    clear hbi
    rcases (by omega : i = 0 ∨ i = 1 ∨ i = 2 ∨ i = 3 ∨ i = 4 ∨ i = 5 ∨ i = 6 ∨ i = 7 ∨ i = 8) with rfl | rfl | rfl | rfl | rfl | rfl | rfl | rfl | rfl
    · simp only [List.getElem?_toArray, List.getElem?_cons_zero, List.getElem?_cons_succ, Option.some.injEq] at ho; subst ho
      clear hd
      refine stepOf_plain rfl ?_
      simp only [Act.put, List.setIfInBounds_toArray, List.set_cons_zero, List.set_cons_succ]
      go_simp
      exact hK _ _ ⟨s4, s5, (.pointer (some ⟨g, 0, none⟩)), s14, s15, s16, s17, (by simp only [Act.put, List.setIfInBounds_toArray, List.set_cons_zero, List.set_cons_succ]), (fun _ => rfl), keep_ (by decide) f1, keep_ (by decide) f2, keep_ (by decide) f3, keep_ (by decide) f4, (by rw [done_ne (by decide), done_ne (by decide)]; exact f5), (by rw [done_ne (by decide), done_ne (by decide)]; exact f6), (by rw [done_ne (by decide), done_ne (by decide)]; exact f7), (by rw [done_ne (by decide), done_ne (by decide)]; exact f8), hC⟩
    · simp only [List.getElem?_toArray, List.getElem?_cons_zero, List.getElem?_cons_succ, Option.some.injEq] at ho; subst ho
      obtain rfl := f0 (hd ⟨0, .data⟩ (by simp) rfl)
      clear hd
      refine stepOf_plain rfl ?_
      simp only [Act.put, List.setIfInBounds_toArray, List.set_cons_zero, List.set_cons_succ]
      go_simp
      exact hK _ _ ⟨s4, s5, _, (.pointer (some ⟨g, 0, none⟩)), s15, s16, s17, (by simp only [Act.put, List.setIfInBounds_toArray, List.set_cons_zero, List.set_cons_succ]), (fun _ => rfl), (fun _ => rfl), keep_ (by decide) f2, keep_ (by decide) f3, keep_ (by decide) f4, (by rw [done_ne (by decide), done_ne (by decide)]; exact f5), (by rw [done_ne (by decide), done_ne (by decide)]; exact f6), (by rw [done_ne (by decide), done_ne (by decide)]; exact f7), (by rw [done_ne (by decide), done_ne (by decide)]; exact f8), hC⟩
    · simp only [List.getElem?_toArray, List.getElem?_cons_zero, List.getElem?_cons_succ, Option.some.injEq] at ho; subst ho
      obtain rfl := f1 (hd ⟨1, .data⟩ (by simp) rfl)
      clear hd
      refine stepOf_plain rfl ?_
      simp only [Act.put, List.setIfInBounds_toArray, List.set_cons_zero, List.set_cons_succ]
      go_simp
      exact hK _ _ ⟨s4, s5, s13, _, (.pointer (some ⟨g, 0, none⟩)), s16, s17, (by simp only [Act.put, List.setIfInBounds_toArray, List.set_cons_zero, List.set_cons_succ]), keep_ (by decide) f0, (fun _ => rfl), (fun _ => rfl), keep_ (by decide) f3, keep_ (by decide) f4, (by rw [done_ne (by decide), done_ne (by decide)]; exact f5), (by rw [done_ne (by decide), done_ne (by decide)]; exact f6), (by rw [done_ne (by decide), done_ne (by decide)]; exact f7), (by rw [done_ne (by decide), done_ne (by decide)]; exact f8), hC⟩
    · simp only [List.getElem?_toArray, List.getElem?_cons_zero, List.getElem?_cons_succ, Option.some.injEq] at ho; subst ho
      obtain rfl := f2 (hd ⟨2, .data⟩ (by simp) rfl)
      clear hd
      simp only [Act.put, List.setIfInBounds_toArray, List.set_cons_zero, List.set_cons_succ]
      refine step_load_at rfl 102 (.tmp 15) rfl ⟨g, 0, none⟩ rfl (wvs s.list) _ (fun j v hv => ?_) Try.underlying102 rfl (w8sz s) ?_
      · rw [add_lit, (hS.ch0 hC).cell]; simpa [List.getElem?_append_left (List.getElem?_eq_some_iff.1 hv).1] using hv
      exact hK _ _ ⟨s4, s5, s13, s14, _, (.agg (wvs s.list).toArray), s17, (by simp only [Act.put, List.setIfInBounds_toArray, List.set_cons_zero, List.set_cons_succ]), keep_ (by decide) f0, keep_ (by decide) f1, (fun _ => rfl), (fun _ => rfl), keep_ (by decide) f4, (by rw [done_ne (by decide), done_ne (by decide)]; exact f5), (by rw [done_ne (by decide), done_ne (by decide)]; exact f6), (by rw [done_ne (by decide), done_ne (by decide)]; exact f7), (by rw [done_ne (by decide), done_ne (by decide)]; exact f8), hC⟩
    · simp only [List.getElem?_toArray, List.getElem?_cons_zero, List.getElem?_cons_succ, Option.some.injEq] at ho; subst ho
      clear hd
      refine stepOf_plain rfl ?_
      simp only [Act.put, List.setIfInBounds_toArray, List.set_cons_zero, List.set_cons_succ]
      go_simp
      refine (rounds_any _).mono ?_
      rintro r w2 ⟨rfl, hC2⟩
      exact hK _ _ ⟨s4, s5, s13, s14, s15, s16, (.agg (wvs K64).toArray), (by simp only [Act.put, List.setIfInBounds_toArray, List.set_cons_zero, List.set_cons_succ]), keep_ (by decide) f0, keep_ (by decide) f1, keep_ (by decide) f2, keep_ (by decide) f3, (fun _ => rfl), (by rw [done_ne (by decide), done_ne (by decide)]; exact (fun h => (f5 h).imp fun _ h => ⟨h.1, h.2.1, h.2.2.ch0 hC2⟩)), (by rw [done_ne (by decide), done_ne (by decide)]; exact (fun h => (f6 h).imp fun _ h => ⟨h.1, h.2.1, h.2.2.ch0 hC2⟩)), (by rw [done_ne (by decide), done_ne (by decide)]; exact f7), (by rw [done_ne (by decide), done_ne (by decide)]; exact f8), hC.trans hC2⟩
    · simp only [List.getElem?_toArray, List.getElem?_cons_zero, List.getElem?_cons_succ, Option.some.injEq] at ho; subst ho
      clear hd
      refine step_alloc rfl 102 rfl (wvs z8).toArray info_w8 ?_
      intro gn w2 hbn hgn hln hC2
      exact hK _ _ ⟨(.pointer (some ⟨gn, 0, none⟩)), s5, s13, s14, s15, s16, s17, (by simp only [Act.put, List.setIfInBounds_toArray, List.set_cons_zero, List.set_cons_succ]), keep_ (by decide) f0, keep_ (by decide) f1, keep_ (by decide) f2, keep_ (by decide) f3, keep_ (by decide) f4, (fun _ => ⟨gn, rfl, Nat.le_trans hC.size hgn, by rw [done_ne (by decide), b7 hbi']; exact hbn⟩), (by rw [done_ne (by decide), done_ne (by decide)]; exact (fun h => (f6 h).imp fun _ h => ⟨h.1, h.2.1, h.2.2.ch0 hC2⟩)), (fun _ => done_eq (by omega)), (by rw [done_ne (by decide), done_ne (by decide)]; exact f8), hC.trans hC2⟩
    · simp only [List.getElem?_toArray, List.getElem?_cons_zero, List.getElem?_cons_succ, Option.some.injEq] at ho; subst ho
      clear hd
      refine step_alloc rfl 110 rfl (wvs z64).toArray info_w64 ?_
      intro gn w2 hbn hgn hln hC2
      exact hK _ _ ⟨s4, (.pointer (some ⟨gn, 0, none⟩)), s13, s14, s15, s16, s17, (by simp only [Act.put, List.setIfInBounds_toArray, List.set_cons_zero, List.set_cons_succ]), keep_ (by decide) f0, keep_ (by decide) f1, keep_ (by decide) f2, keep_ (by decide) f3, keep_ (by decide) f4, (by rw [done_ne (by decide), done_ne (by decide)]; exact (fun h => (f5 h).imp fun _ h => ⟨h.1, h.2.1, h.2.2.ch0 hC2⟩)), (fun _ => ⟨gn, rfl, Nat.le_trans hC.size hgn, by rw [done_ne (by decide), b8 hbi']; exact hbn⟩), (by rw [done_ne (by decide), done_ne (by decide)]; exact f7), (fun _ => done_eq (by omega)), hC.trans hC2⟩
    · simp only [List.getElem?_toArray, List.getElem?_cons_zero, List.getElem?_cons_succ, Option.some.injEq] at ho; subst ho
      have D5 : L.getD 5 false = true := hd ⟨5, .data⟩ (by simp) rfl
      have D3 : L.getD 3 false = true := hd ⟨3, .data⟩ (by simp) rfl
      obtain ⟨gn, rfl, hgn, hbn⟩ := f5 D5
      obtain rfl := f3 D3
      clear hd
      rw [b7' hbi'] at hbn
      simp only [Act.put, List.setIfInBounds_toArray, List.set_cons_zero, List.set_cons_succ]
      refine step_store rfl 102 (.tmp 4) (.tmp 16) rfl gn rfl 102 (wvs s.list).toArray (wvs z8).toArray rfl hbn (by simp [wvs_len, z8, W8.list]) (by rw [info_w8n]; rfl) (by simpa using wvs_one _) ?_
      intro w2 hb2 hC2
      exact hK _ _ ⟨_, s5, s13, s14, s15, _, s17, (by simp only [Act.put, List.setIfInBounds_toArray, List.set_cons_zero, List.set_cons_succ]), keep_ (by decide) f0, keep_ (by decide) f1, keep_ (by decide) f2, (fun _ => rfl), keep_ (by decide) f4, (fun _ => ⟨gn, rfl, hgn, by rw [done_eq (by omega)]; exact hb2⟩), (by rw [done_ne (by decide), done_ne (by decide)]; exact fun h => (f6 h).imp fun g9 h => ⟨h.1, h.2.1, h.2.2.ch hC2 (by simp; exact h.2.2.ne_ hbn (by decide))⟩), (fun _ => by rw [done_ne (by decide)]; exact D5), (by rw [done_ne (by decide), done_ne (by decide)]; exact f8), hC.one hC2 (.inr hgn)⟩
    · simp only [List.getElem?_toArray, List.getElem?_cons_zero, List.getElem?_cons_succ, Option.some.injEq] at ho; subst ho
      have D6 : L.getD 6 false = true := hd ⟨6, .data⟩ (by simp) rfl
      have D4 : L.getD 4 false = true := hd ⟨4, .data⟩ (by simp) rfl
      obtain ⟨gn, rfl, hgn, hbn⟩ := f6 D6
      obtain rfl := f4 D4
      clear hd
      rw [b8' hbi'] at hbn
      simp only [Act.put, List.setIfInBounds_toArray, List.set_cons_zero, List.set_cons_succ]
      refine step_store rfl 110 (.tmp 5) (.tmp 17) rfl gn rfl 110 (wvs K64).toArray (wvs z64).toArray rfl hbn (by simp [wvs_len, z64_len, K64_len]) (w64sz _ K64_len) (by simpa using wvs_one _) ?_
      intro w2 hb2 hC2
      exact hK _ _ ⟨s4, _, s13, s14, s15, s16, _, (by simp only [Act.put, List.setIfInBounds_toArray, List.set_cons_zero, List.set_cons_succ]), keep_ (by decide) f0, keep_ (by decide) f1, keep_ (by decide) f2, keep_ (by decide) f3, (fun _ => rfl), (by rw [done_ne (by decide), done_ne (by decide)]; exact fun h => (f5 h).imp fun g9 h => ⟨h.1, h.2.1, h.2.2.ch hC2 (by simp; exact h.2.2.ne_ hbn (by decide))⟩), (fun _ => ⟨gn, rfl, hgn, by rw [done_eq (by omega)]; exact hb2⟩), (by rw [done_ne (by decide), done_ne (by decide)]; exact f7), (fun _ => by rw [done_ne (by decide)]; exact D6), hC.one hC2 (.inr hgn)⟩
  · intro L a w' ⟨s4, s5, s13, s14, s15, s16, s17, ha, f0, f1, f2, f3, f4, f5, f6, f7, f8, hC⟩ hall
    have e0 := f0 (hall 0 (by decide))
    have e1 := f1 (hall 1 (by decide))
    have e2 := f2 (hall 2 (by decide))
    have e3 := f3 (hall 3 (by decide))
    have e4 := f4 (hall 4 (by decide))
    obtain ⟨g4, e5, h4, b4⟩ := f5 (hall 5 (by decide))
    obtain ⟨g5, e6, h5, b5⟩ := f6 (hall 6 (by decide))
    rw [hall 7 (by decide)] at b4
    rw [hall 8 (by decide)] at b5
    simp only [if_true] at b4 b5
    clear f0 f1 f2 f3 f4 f5 f6 f7 f8 hall
    subst e0 e1 e2 e3 e4 e5 e6 ha hA0
    simp only [Act.put, List.setIfInBounds_toArray, List.set_cons_zero, List.set_cons_succ]
    have hRb := hR.ch0 hC
    have hSb := hS.ch0 hC
    have hg := hS.lt
    clear hS hR
    go_wp2_with (go_at_call 76; refine (spread_any b ad c hb hc hc2 _ hRb).mono ?_; rintro r w2 ⟨rfl, hC2⟩)
    have hbv := b4.ch0 hC2
    have hbt := b5.ch0 hC2
    have hg45 : g4 ≠ g5 := b4.ne_ b5 (by decide)
    have hwl : (sched b 64).length = 64 := sched_len b 64
    clear b4 b5 hRb
    go_loopw [20] (fun i wr => ∃ (k : Nat), k ≤ 64 ∧ i = .int .i64 k ∧ Blk wr g4 102 (wvs (rnds (sched b 64) s k).list).toArray ∧ Ch [g4] w2 wr) (fun i _ => 64 - (intOf i).toNat)
    case atStart => exact ⟨0, by omega, rfl, by rw [rnds_zero]; exact hbv, Ch.refl _ _⟩
    case round =>
      obtain ⟨k, hk, rfl, hbk, hCk⟩ := hrel
      by_cases hlt : k < 64
      · as_aux_lemma =>
        have hbtk := hbt.ch hCk (by simpa using Ne.symm hg45)
        obtain ⟨x, hx⟩ : ∃ x, (sched b 64)[k]? = some x := ⟨_, List.getElem?_eq_getElem (by omega)⟩
        obtain ⟨y, hy⟩ : ∃ y, K64[k]? = some y := ⟨_, List.getElem?_eq_getElem (by rw [K64_len]; omega)⟩
        have hnx : rnds (sched b 64) s (k + 1) = rnd y x (rnds (sched b 64) s k) := by
          rw [rnds_succ, List.getD_eq_getElem?_getD, List.getD_eq_getElem?_getD, hx, hy]; rfl
        have ck := wget hbtk k y hy
        have cx : (wvs (sched b 64))[k]? = some (.int .u32 (w32 x)) := wvs_get _ _ _ hx
        have CX := Lib.hid cx
        have HX := Lib.hid hnx
        clear hnx hx hy hbtk cx
        obtain ⟨σ, hσ⟩ : ∃ σ, σ = rnds (sched b 64) s k := ⟨_, rfl⟩
        rw [← hσ] at hbk
        have HS := Lib.hid hσ
        clear hσ
        obtain ⟨a0, b0, c0, d0, e0, f0, g0, h0⟩ := σ
        have z0 : wr.cell? ⟨g4, 0, none⟩ = some (.int .u32 (w32 a0)) := by rw [hbk.cell]; rfl
        have z1 : wr.cell? ⟨g4, 1, none⟩ = some (.int .u32 (w32 b0)) := by rw [hbk.cell]; rfl
        have z2 : wr.cell? ⟨g4, 2, none⟩ = some (.int .u32 (w32 c0)) := by rw [hbk.cell]; rfl
        have z3 : wr.cell? ⟨g4, 3, none⟩ = some (.int .u32 (w32 d0)) := by rw [hbk.cell]; rfl
        have z4 : wr.cell? ⟨g4, 4, none⟩ = some (.int .u32 (w32 e0)) := by rw [hbk.cell]; rfl
        have z5 : wr.cell? ⟨g4, 5, none⟩ = some (.int .u32 (w32 f0)) := by rw [hbk.cell]; rfl
        have z6 : wr.cell? ⟨g4, 6, none⟩ = some (.int .u32 (w32 g0)) := by rw [hbk.cell]; rfl
        have z7 : wr.cell? ⟨g4, 7, none⟩ = some (.int .u32 (w32 h0)) := by rw [hbk.cell]; rfl
        go_wp2_with (refine op_index rfl 110 (.tmp 19) (.tmp 20) rfl (wvs (sched b 64)) rfl k rfl 64 95 _ Try.underlying110 Try.underlying95 info_u32n _ CX.out hlt ?_)
        go_region
        go_wp2
        go_region
        go_wp2_with (go_at_call 77; refine (turn_any _ _ ?h _).mono ?_; (case h => decide); rintro r w' ⟨rfl, rfl⟩; (try simp only [Int.toNat_ofNat, Int.reduceToNat]))
        obtain ⟨w9, hW⟩ : ∃ x, x = World.drew (World.drew wr) := ⟨_, rfl⟩
        rw [← hW]
        have hb9 : Blk w9 g4 102 (wvs (W8.list ⟨a0, b0, c0, d0, e0, f0, g0, h0⟩)).toArray := by rw [hW]; exact hbk
        have C9 : Ch [g4] w2 w9 := by rw [hW]; exact hCk.drewN 2
        clear hW hbk hCk z0 z1 z2 z3 z4 z5 z6 z7 ck
        go_region_law (refine step_copy_row rfl (.tmp 81) (.tmp 82) 106 106 rfl 95 Try.underlying106 info_u32n g4 1 7 7 102 (wvs (W8.list ⟨a0, b0, c0, d0, e0, f0, g0, h0⟩)).toArray ⟨g4, 0, none⟩ 8 (wvs [a0, b0, c0, d0, e0, f0, g0]) rfl rfl rfl (fun j u hj => by rw [add_lit, hb9.drew.cell]; rcases (by simp [wvs] at hj; have := (List.getElem?_eq_some_iff.1 hj).1; simpa [wvs] using this : j < 7) with hj7; rcases (by omega : j = 0 ∨ j = 1 ∨ j = 2 ∨ j = 3 ∨ j = 4 ∨ j = 5 ∨ j = 6) with rfl | rfl | rfl | rfl | rfl | rfl | rfl <;> exact hj) hb9.drew (by simp [wvs, W8.list]) (wvs_one _) ?_; intro w10 hb10 hC10)
        have hb11 : Blk w10 g4 102 (wvs [a0, a0, b0, c0, d0, e0, f0, g0]).toArray := hb10
        have z4 : w10.cell? ⟨g4, 4, none⟩ = some (.int .u32 (w32 d0)) := by rw [hb11.cell]; rfl
        have z0 : w10.cell? ⟨g4, 0, none⟩ = some (.int .u32 (w32 a0)) := by rw [hb11.cell]; rfl
        have y0 := hb11.frozen 0
        have y4 := hb11.frozen 4
        have C11 := C9.drew.trans hC10
        clear hb10 hb9 C9 hC10
        go_wp2
        go_roundw
        case rel =>
          refine ⟨k + 1, by omega, by go_num, ?_, ((C11.setCell (.inl (by simp)) _).setCell (.inl (by simp)) _)⟩
          rw [HX.out, ← HS.out]
          have hf := (hb11.set_ 4 (.int .u32 (w32 (d0 + (h0 + y + x + (rotr e0 6 ^^^ rotr e0 11 ^^^ rotr e0 25) + (e0 &&& f0 ||| ~~~e0 &&& g0)))))).set_ 0 (.int .u32 (w32 (h0 + y + x + (rotr e0 6 ^^^ rotr e0 11 ^^^ rotr e0 25) + (e0 &&& f0 ||| ~~~e0 &&& g0) + ((rotr a0 2 ^^^ rotr a0 13 ^^^ rotr a0 22) + (a0 &&& (b0 ||| c0) ||| b0 &&& c0)))))
          exact hf
        case measure => simp [intOf]; omega
      · obtain rfl : k = 64 := by omega
        have hSk := (hSb.ch0 hC2).ch hCk (by simp; omega)
        have hgw : g < w2.heap.size := (hSb.ch0 hC2).lt
        have hg4 : g4 ≠ g := by omega
        have hmx := mix_def s b
        obtain ⟨t, ht⟩ : ∃ t, t = rnds (sched b 64) s 64 := ⟨_, rfl⟩
        rw [← ht] at hbk hmx
        have Cw : Ch [] w wr := (hC.trans hC2).one hCk (.inr h4)
        have HM := Lib.hid hmx
        clear hmx ht hbt hbv hSb hCk hC hC2
        go_wp2
        obtain ⟨wq, rfl⟩ : ∃ wq : World, wq = wr := ⟨_, rfl⟩
        go_loopw [94] (fun i wr => ∃ (j : Nat), j ≤ 8 ∧ i = .int .i64 j ∧ Blk wr g 104 (wvs (addUp s t j) ++ [x8, x9]).toArray ∧ Ch [g] wq wr) (fun i _ => 8 - (intOf i).toNat)
        case atStart => exact ⟨0, by omega, rfl, hSk, Ch.refl _ _⟩
        case round =>
          obtain ⟨j, hj, rfl, hbj, hCj⟩ := hrel
          by_cases hlt : j < 8
          · as_aux_lemma =>
            have hb4 := hbk.ch hCj (by simpa using hg4)
            obtain ⟨x, y, hx, hy, hset, hl⟩ := addUp_get s t j hlt
            have cg : wr.cell? ⟨g, j, none⟩ = some (.int .u32 (w32 x)) := by
              rw [hbj.cell]
              have := wvs_get _ _ _ hx
              simpa [List.getElem?_append_left (List.getElem?_eq_some_iff.1 this).1] using this
            have fg := hbj.frozen j
            have c4 := wget hb4 j y hy
            have hst := hbj.set_ j (.int .u32 (w32 (x + y)))
            rw [wset2 _ _ _ _ (by rw [hl]; exact hlt), hset] at hst
            have HST := Lib.hid hst
            clear hst hset hx hy hbj hb4
            go_wp2
            go_region
            all_goals (go_wp2; go_roundw)
            case rel => exact ⟨j + 1, by omega, by go_num, HST.out, (hCj.setCell (p := ⟨g, j, none⟩) (.inl (by simp)) (.int .u32 (w32 (x + y)))).drew⟩
            case measure => simp [intOf]; omega
          · obtain rfl : j = 8 := by omega
            go_wp2
            go_end0
            refine ⟨rfl, ?_, Cw.more.trans hCj⟩
            rw [HM.out]
            simpa [addUp, W8.list] using hbj
end Go.Proofs.Ythjceppddmecdaa
