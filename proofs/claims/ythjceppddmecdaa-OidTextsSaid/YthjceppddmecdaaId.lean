/- Names: 32 bytes as an array; the law's Name; the bale's ID. No condition. -/
import Derived.Test.YthjceppddmecdaaBaleT
set_option linter.unusedSimpArgs false
set_option linter.unusedVariables false
namespace Go.Proofs.Ythjceppddmecdaa
open Go.RowKit
attribute [local go_sem] extract_mid extract_drop bget bsize wrap64_u8 i64_u8 u64_u8 bappend
@[irreducible] def z32 : List UInt8 := List.replicate 32 0
theorem z32_len : z32.length = 32 := by unfold z32; simp
/-- A text's first 32 bytes, and zeros. -/
def idOf (l : List UInt8) : List UInt8 := over z32 l
theorem idOf_len (l : List UInt8) : (idOf l).length = 32 := by rw [idOf, over_len, z32_len]
def idv (l : List UInt8) : Value := .agg (bvs l).toArray
theorem info_id : (Try.prog.info? 23).map (fun i => i.zero) = some (some (.agg (bvs z32).toArray)) := by kernel_rfl
theorem info_idn : (Try.prog.info? 23).map (·.size) = some 32 := by kernel_rfl
theorem info_u8n : (Try.prog.info? 5).map (·.size) = some 1 := by kernel_rfl
theorem und_id : ∃ d, Try.prog.underlying 23 = some d ∧ (match d with | .struct _ | .array _ _ => true | _ => false) = true := ⟨_, Try.underlying23, rfl⟩
theorem idsz (l : List UInt8) (h : l.length = 32) : (Try.prog.info? 23).map (·.size) = some (bvs l).toArray.size := by rw [info_idn]; simp [bvs_len, h]
theorem bvs_oneA (l : List UInt8) : ∀ v ∈ (bvs l).toArray.toList, v.oneCell' = true := by simpa using bvs_oneCell l
set_option maxRecDepth 100000 in
theorem name_any (l : List UInt8) (w : World) :
    Calls Try.prog 13 #[.string ⟨l.toArray⟩] w fun r w' => r = .returned (idv (idOf l)) ∧ Ch [] w w' := by
  have tok1 : True := trivial
  go_enter Try.func13, Try.ntmps13
  go_wp2_with (first | (have _t := tok1; refine op_alloc rfl 23 rfl (bvs z32).toArray info_id ?_; intro g w1 hb1 hg hlt hC1; clear tok1) | (refine op_alloc rfl 23 rfl (bvs z32).toArray info_id ?_; intro g2 w2 hb2 hg2 hlt2 hC2) | (refine op_copy_str rfl (.tmp 4) (.tmp 5) 63 9 rfl 5 Try.underlying63 info_u8n g2 32 32 23 z32 l rfl rfl hb2 z32_len.symm ?_; intro w3 hb3 hC3) | (refine op_load rfl 23 (.tmp 3) rfl g2 rfl 23 (bvs (idOf l)).toArray _ hb3 Try.underlying23 rfl (idsz _ (idOf_len l)) ?_) | (refine op_store rfl 23 (.tmp 2) (.tmp 7) rfl g rfl 23 (bvs (idOf l)).toArray (bvs z32).toArray rfl ((hb1.ch0 hC2).ch hC3 (by simp; have := hb1.lt; omega)) (by simp [bvs_len, idOf_len, z32_len]) (idsz _ (idOf_len l)) (bvs_oneA _) ?_; intro w4 hb4 hC4))
  refine bodyPost_ret (results_cell_row rfl _ _ g 23 (bvs (idOf l)).toArray (0, 0) _ rfl hb4 Try.underlying23 rfl (idsz _ (idOf_len l))) rfl ⟨rfl, ?_⟩
  exact (((hC1.trans hC2).one hC3 (.inr (by omega))).one hC4 (.inr hg))

end Go.Proofs.Ythjceppddmecdaa
