/- Names: 32 bytes as an array; the law's Name; the bale's ID. No condition. -/
import Derived.Test.YtbnencchfgnbjaaBaleT
set_option linter.unusedSimpArgs false
set_option linter.unusedVariables false
namespace Go.Proofs.Ytbnencchfgnbjaa
open Go.RowKit
attribute [local go_sem] extract_mid extract_drop bget bsize wrap64_u8 i64_u8 u64_u8 bappend
@[irreducible] def z32 : List UInt8 := List.replicate 32 0
theorem z32_len : z32.length = 32 := by unfold z32; simp
/-- A text's first 32 bytes, and zeros. -/
def idOf (l : List UInt8) : List UInt8 := over z32 l
theorem idOf_len (l : List UInt8) : (idOf l).length = 32 := by rw [idOf, over_len, z32_len]
def idv (l : List UInt8) : Value := .agg (bvs l).toArray
theorem info_id : (Try.prog.info? 38).map (fun i => i.zero) = some (some (.agg (bvs z32).toArray)) := by kernel_rfl
theorem info_idn : (Try.prog.info? 38).map (·.size) = some 32 := by kernel_rfl
theorem info_u8n : (Try.prog.info? 5).map (·.size) = some 1 := by kernel_rfl
theorem und_id : ∃ d, Try.prog.underlying 38 = some d ∧ (match d with | .struct _ | .array _ _ => true | _ => false) = true := ⟨_, Try.underlying38, rfl⟩
theorem idsz (l : List UInt8) (h : l.length = 32) : (Try.prog.info? 38).map (·.size) = some (bvs l).toArray.size := by rw [info_idn]; simp [bvs_len, h]
theorem bvs_oneA (l : List UInt8) : ∀ v ∈ (bvs l).toArray.toList, v.oneCell' = true := by simpa using bvs_oneCell l
set_option maxRecDepth 100000 in
theorem name_any (l : List UInt8) (w : World) :
    Calls Try.prog 24 #[.string ⟨l.toArray⟩] w fun r w' => r = .returned (idv (idOf l)) ∧ Ch [] w w' := by
  have tok1 : True := trivial
  go_enter Try.func24, Try.ntmps24
  go_wp2_with (first | (have _t := tok1; refine op_alloc rfl 38 rfl (bvs z32).toArray info_id ?_; intro g w1 hb1 hg hlt hC1; clear tok1) | (refine op_alloc rfl 38 rfl (bvs z32).toArray info_id ?_; intro g2 w2 hb2 hg2 hlt2 hC2) | (refine op_copy_str rfl (.tmp 4) (.tmp 5) 40 9 rfl 5 Try.underlying40 info_u8n g2 32 32 38 z32 l rfl rfl hb2 z32_len.symm ?_; intro w3 hb3 hC3) | (refine op_load rfl 38 (.tmp 3) rfl g2 rfl 38 (bvs (idOf l)).toArray _ hb3 Try.underlying38 rfl (idsz _ (idOf_len l)) ?_) | (refine op_store rfl 38 (.tmp 2) (.tmp 7) rfl g rfl 38 (bvs (idOf l)).toArray (bvs z32).toArray rfl ((hb1.ch0 hC2).ch hC3 (by simp; have := hb1.lt; omega)) (by simp [bvs_len, idOf_len, z32_len]) (idsz _ (idOf_len l)) (bvs_oneA _) ?_; intro w4 hb4 hC4))
  refine bodyPost_ret (results_cell_row rfl _ _ g 38 (bvs (idOf l)).toArray (0, 0) _ rfl hb4 Try.underlying38 rfl (idsz _ (idOf_len l))) rfl ⟨rfl, ?_⟩
  exact (((hC1.trans hC2).one hC3 (.inr (by omega))).one hC4 (.inr hg))

set_option maxRecDepth 100000 in
theorem id_any {b : Nat} {l : List UInt8} {e : Int} {w : World} (hB : Bal w b l e) :
    Calls Try.prog 62 #[.pointer (some ⟨b, 0, none⟩)] w fun r w' => r = .returned (idv (idOf (mBytes l e 32).1)) ∧ Bal w' b (mBytes l e 32).2.1 (mBytes l e 32).2.2 ∧ Ch [b] w w' := by
  obtain ⟨s, u, f, hm⟩ : ∃ s u f, mBytes l e 32 = (s, u, f) := ⟨_, _, _, rfl⟩
  rw [hm]
  have HM := Lib.hid hm
  clear hm
  have hblt := hB.lt
  have tok1 : True := trivial
  go_enter Try.func62, Try.ntmps62
  go_wp2_with (first | (have _t := tok1; refine op_alloc rfl 38 rfl (bvs z32).toArray info_id ?_; intro g w1 hb1 hg hlt hC1; clear tok1) | (refine op_alloc rfl 38 rfl (bvs z32).toArray info_id ?_; intro g2 w2 hb2 hg2 hlt2 hC2))
  have hgg := hb1.lt
  replace hb1 := hb1.ch0 hC2
  have hB2 : Bal w2 b l e := bal_conv (bal_conv hB hC1) hC2
  have hC := hC1.trans hC2
  have h1 : b < g := by omega
  have h2 : b < g2 := by omega
  clear hC1 hC2
  go_region_law (first | (refine step_copy_str rfl (.tmp 4) (.tmp 6) 40 9 rfl 5 Try.underlying40 info_u8n g2 32 32 38 z32 s rfl rfl ((Blk.drew hb2).ch hC3 (by simp; omega)) z32_len.symm ?_; intro w4 hb4 hC4) | (go_simp; go_at_call 29; refine (bytes_any (w := World.drew w2) (Blk.drew hB2) 32).mono ?_; rw [HM.out]; rintro r w3 ⟨rfl, hB3, hC3⟩))
  all_goals
    replace hb1 := ((Blk.drew hb1).ch hC3 (by simp; omega)).ch hC4 (by simp; omega)
    go_wp2_with (first | (refine op_load rfl 38 (.tmp 3) rfl g2 rfl 38 (bvs (idOf s)).toArray _ hb4 Try.underlying38 rfl (idsz _ (idOf_len s)) ?_) | (refine op_store rfl 38 (.tmp 2) (.tmp 8) rfl g rfl 38 (bvs (idOf s)).toArray (bvs z32).toArray rfl hb1 (by simp [bvs_len, idOf_len, z32_len]) (idsz _ (idOf_len s)) (bvs_oneA _) ?_; intro w5 hb5 hC5))
    refine bodyPost_ret (results_cell_row rfl _ _ g 38 (bvs (idOf s)).toArray (0, 0) _ rfl hb5 Try.underlying38 rfl (idsz _ (idOf_len s))) rfl ⟨rfl, ?_, ?_⟩
    · exact Blk.ch (Blk.ch hB3 hC4 (by simp; omega)) hC5 (by simp; omega)
    · exact (((hC.more.drew.one hC3 (.inl (by simp))).one hC4 (.inr (by omega))).one hC5 (.inr hg))
end Go.Proofs.Ytbnencchfgnbjaa
