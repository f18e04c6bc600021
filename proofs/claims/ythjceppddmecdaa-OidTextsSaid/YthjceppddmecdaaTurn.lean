/- The turns of a word, the program's and the reference's, at the counts that occur. No condition. -/
import Derived.Test.YthjceppddmecdaaWord
set_option linter.unusedSimpArgs false
set_option linter.unusedVariables false
namespace Go.Proofs.Ythjceppddmecdaa
open Go.RowKit
attribute [local go_sem] extract_mid extract_drop bget bsize wrap64_u8 i64_u8 u64_u8 bappend
attribute [local go_sem] u32_add u32_xor_w u32_and_w u32_or_w w32_shr3 w32_shr10
theorem rot7 (x : UInt32) (w : World) : Calls Try.prog 81 #[.int .u32 (w32 x), .int .i64 (-7)] w fun r w' => r = .returned (.int .u32 (w32 (rotr x 7))) ∧ w = w' := by
  have hx := w32_lt x
  have hs : bits BinOp.and IntKind.u64 (IntKind.u64.wrap (-7)) 31 = 25 := by decide
  have hr := rotr_or' x 7 (by omega) (by omega) 33554432 128 (by decide) (by decide)
  go_enter Try.func81, Try.ntmps81
  go_wp2
  go_ret
  exact ⟨rfl, rfl⟩
theorem turn7 (x : UInt32) (w : World) : Calls Try.prog 77 #[.int .u32 (w32 x), .int .i64 7] w fun r w' => r = .returned (.int .u32 (w32 (rotr x 7))) ∧ w = w' := by
  go_enter Try.func77, Try.ntmps77
  go_wp2_with (go_at_call 81; refine (rot7 x _).mono ?_; rintro r w' ⟨rfl, rfl⟩)
  go_ret
  exact ⟨rfl, rfl⟩
theorem ror7 (x : UInt32) (w : World) : Calls Try.prog 79 #[.int .u32 (w32 x), .int .i64 7] w fun r w' => r = .returned (.int .u32 (w32 (rotr x 7))) ∧ ∃ n, w' = w.drewN n := by
  have hx := w32_lt x
  have hr := rotr_sum x 7 (by omega) (by omega) 33554432 128 (by decide) (by decide)
  go_enter Try.func79, Try.ntmps79
  go_wp2
  go_region
  all_goals (go_wp2; go_ret; exact ⟨rfl, 1, rfl⟩)
theorem rot18 (x : UInt32) (w : World) : Calls Try.prog 81 #[.int .u32 (w32 x), .int .i64 (-18)] w fun r w' => r = .returned (.int .u32 (w32 (rotr x 18))) ∧ w = w' := by
  have hx := w32_lt x
  have hs : bits BinOp.and IntKind.u64 (IntKind.u64.wrap (-18)) 31 = 14 := by decide
  have hr := rotr_or' x 18 (by omega) (by omega) 16384 262144 (by decide) (by decide)
  go_enter Try.func81, Try.ntmps81
  go_wp2
  go_ret
  exact ⟨rfl, rfl⟩
theorem turn18 (x : UInt32) (w : World) : Calls Try.prog 77 #[.int .u32 (w32 x), .int .i64 18] w fun r w' => r = .returned (.int .u32 (w32 (rotr x 18))) ∧ w = w' := by
  go_enter Try.func77, Try.ntmps77
  go_wp2_with (go_at_call 81; refine (rot18 x _).mono ?_; rintro r w' ⟨rfl, rfl⟩)
  go_ret
  exact ⟨rfl, rfl⟩
theorem ror18 (x : UInt32) (w : World) : Calls Try.prog 79 #[.int .u32 (w32 x), .int .i64 18] w fun r w' => r = .returned (.int .u32 (w32 (rotr x 18))) ∧ ∃ n, w' = w.drewN n := by
  have hx := w32_lt x
  have hr := rotr_sum x 18 (by omega) (by omega) 16384 262144 (by decide) (by decide)
  go_enter Try.func79, Try.ntmps79
  go_wp2
  go_region
  all_goals (go_wp2; go_ret; exact ⟨rfl, 1, rfl⟩)
theorem rot17 (x : UInt32) (w : World) : Calls Try.prog 81 #[.int .u32 (w32 x), .int .i64 (-17)] w fun r w' => r = .returned (.int .u32 (w32 (rotr x 17))) ∧ w = w' := by
  have hx := w32_lt x
  have hs : bits BinOp.and IntKind.u64 (IntKind.u64.wrap (-17)) 31 = 15 := by decide
  have hr := rotr_or' x 17 (by omega) (by omega) 32768 131072 (by decide) (by decide)
  go_enter Try.func81, Try.ntmps81
  go_wp2
  go_ret
  exact ⟨rfl, rfl⟩
theorem turn17 (x : UInt32) (w : World) : Calls Try.prog 77 #[.int .u32 (w32 x), .int .i64 17] w fun r w' => r = .returned (.int .u32 (w32 (rotr x 17))) ∧ w = w' := by
  go_enter Try.func77, Try.ntmps77
  go_wp2_with (go_at_call 81; refine (rot17 x _).mono ?_; rintro r w' ⟨rfl, rfl⟩)
  go_ret
  exact ⟨rfl, rfl⟩
theorem ror17 (x : UInt32) (w : World) : Calls Try.prog 79 #[.int .u32 (w32 x), .int .i64 17] w fun r w' => r = .returned (.int .u32 (w32 (rotr x 17))) ∧ ∃ n, w' = w.drewN n := by
  have hx := w32_lt x
  have hr := rotr_sum x 17 (by omega) (by omega) 32768 131072 (by decide) (by decide)
  go_enter Try.func79, Try.ntmps79
  go_wp2
  go_region
  all_goals (go_wp2; go_ret; exact ⟨rfl, 1, rfl⟩)
theorem rot19 (x : UInt32) (w : World) : Calls Try.prog 81 #[.int .u32 (w32 x), .int .i64 (-19)] w fun r w' => r = .returned (.int .u32 (w32 (rotr x 19))) ∧ w = w' := by
  have hx := w32_lt x
  have hs : bits BinOp.and IntKind.u64 (IntKind.u64.wrap (-19)) 31 = 13 := by decide
  have hr := rotr_or' x 19 (by omega) (by omega) 8192 524288 (by decide) (by decide)
  go_enter Try.func81, Try.ntmps81
  go_wp2
  go_ret
  exact ⟨rfl, rfl⟩
theorem turn19 (x : UInt32) (w : World) : Calls Try.prog 77 #[.int .u32 (w32 x), .int .i64 19] w fun r w' => r = .returned (.int .u32 (w32 (rotr x 19))) ∧ w = w' := by
  go_enter Try.func77, Try.ntmps77
  go_wp2_with (go_at_call 81; refine (rot19 x _).mono ?_; rintro r w' ⟨rfl, rfl⟩)
  go_ret
  exact ⟨rfl, rfl⟩
theorem ror19 (x : UInt32) (w : World) : Calls Try.prog 79 #[.int .u32 (w32 x), .int .i64 19] w fun r w' => r = .returned (.int .u32 (w32 (rotr x 19))) ∧ ∃ n, w' = w.drewN n := by
  have hx := w32_lt x
  have hr := rotr_sum x 19 (by omega) (by omega) 8192 524288 (by decide) (by decide)
  go_enter Try.func79, Try.ntmps79
  go_wp2
  go_region
  all_goals (go_wp2; go_ret; exact ⟨rfl, 1, rfl⟩)
theorem rot6 (x : UInt32) (w : World) : Calls Try.prog 81 #[.int .u32 (w32 x), .int .i64 (-6)] w fun r w' => r = .returned (.int .u32 (w32 (rotr x 6))) ∧ w = w' := by
  have hx := w32_lt x
  have hs : bits BinOp.and IntKind.u64 (IntKind.u64.wrap (-6)) 31 = 26 := by decide
  have hr := rotr_or' x 6 (by omega) (by omega) 67108864 64 (by decide) (by decide)
  go_enter Try.func81, Try.ntmps81
  go_wp2
  go_ret
  exact ⟨rfl, rfl⟩
theorem turn6 (x : UInt32) (w : World) : Calls Try.prog 77 #[.int .u32 (w32 x), .int .i64 6] w fun r w' => r = .returned (.int .u32 (w32 (rotr x 6))) ∧ w = w' := by
  go_enter Try.func77, Try.ntmps77
  go_wp2_with (go_at_call 81; refine (rot6 x _).mono ?_; rintro r w' ⟨rfl, rfl⟩)
  go_ret
  exact ⟨rfl, rfl⟩
theorem ror6 (x : UInt32) (w : World) : Calls Try.prog 79 #[.int .u32 (w32 x), .int .i64 6] w fun r w' => r = .returned (.int .u32 (w32 (rotr x 6))) ∧ ∃ n, w' = w.drewN n := by
  have hx := w32_lt x
  have hr := rotr_sum x 6 (by omega) (by omega) 67108864 64 (by decide) (by decide)
  go_enter Try.func79, Try.ntmps79
  go_wp2
  go_region
  all_goals (go_wp2; go_ret; exact ⟨rfl, 1, rfl⟩)
theorem rot11 (x : UInt32) (w : World) : Calls Try.prog 81 #[.int .u32 (w32 x), .int .i64 (-11)] w fun r w' => r = .returned (.int .u32 (w32 (rotr x 11))) ∧ w = w' := by
  have hx := w32_lt x
  have hs : bits BinOp.and IntKind.u64 (IntKind.u64.wrap (-11)) 31 = 21 := by decide
  have hr := rotr_or' x 11 (by omega) (by omega) 2097152 2048 (by decide) (by decide)
  go_enter Try.func81, Try.ntmps81
  go_wp2
  go_ret
  exact ⟨rfl, rfl⟩
theorem turn11 (x : UInt32) (w : World) : Calls Try.prog 77 #[.int .u32 (w32 x), .int .i64 11] w fun r w' => r = .returned (.int .u32 (w32 (rotr x 11))) ∧ w = w' := by
  go_enter Try.func77, Try.ntmps77
  go_wp2_with (go_at_call 81; refine (rot11 x _).mono ?_; rintro r w' ⟨rfl, rfl⟩)
  go_ret
  exact ⟨rfl, rfl⟩
theorem ror11 (x : UInt32) (w : World) : Calls Try.prog 79 #[.int .u32 (w32 x), .int .i64 11] w fun r w' => r = .returned (.int .u32 (w32 (rotr x 11))) ∧ ∃ n, w' = w.drewN n := by
  have hx := w32_lt x
  have hr := rotr_sum x 11 (by omega) (by omega) 2097152 2048 (by decide) (by decide)
  go_enter Try.func79, Try.ntmps79
  go_wp2
  go_region
  all_goals (go_wp2; go_ret; exact ⟨rfl, 1, rfl⟩)
theorem rot25 (x : UInt32) (w : World) : Calls Try.prog 81 #[.int .u32 (w32 x), .int .i64 (-25)] w fun r w' => r = .returned (.int .u32 (w32 (rotr x 25))) ∧ w = w' := by
  have hx := w32_lt x
  have hs : bits BinOp.and IntKind.u64 (IntKind.u64.wrap (-25)) 31 = 7 := by decide
  have hr := rotr_or' x 25 (by omega) (by omega) 128 33554432 (by decide) (by decide)
  go_enter Try.func81, Try.ntmps81
  go_wp2
  go_ret
  exact ⟨rfl, rfl⟩
theorem turn25 (x : UInt32) (w : World) : Calls Try.prog 77 #[.int .u32 (w32 x), .int .i64 25] w fun r w' => r = .returned (.int .u32 (w32 (rotr x 25))) ∧ w = w' := by
  go_enter Try.func77, Try.ntmps77
  go_wp2_with (go_at_call 81; refine (rot25 x _).mono ?_; rintro r w' ⟨rfl, rfl⟩)
  go_ret
  exact ⟨rfl, rfl⟩
theorem ror25 (x : UInt32) (w : World) : Calls Try.prog 79 #[.int .u32 (w32 x), .int .i64 25] w fun r w' => r = .returned (.int .u32 (w32 (rotr x 25))) ∧ ∃ n, w' = w.drewN n := by
  have hx := w32_lt x
  have hr := rotr_sum x 25 (by omega) (by omega) 128 33554432 (by decide) (by decide)
  go_enter Try.func79, Try.ntmps79
  go_wp2
  go_region
  all_goals (go_wp2; go_ret; exact ⟨rfl, 1, rfl⟩)
theorem rot2 (x : UInt32) (w : World) : Calls Try.prog 81 #[.int .u32 (w32 x), .int .i64 (-2)] w fun r w' => r = .returned (.int .u32 (w32 (rotr x 2))) ∧ w = w' := by
  have hx := w32_lt x
  have hs : bits BinOp.and IntKind.u64 (IntKind.u64.wrap (-2)) 31 = 30 := by decide
  have hr := rotr_or' x 2 (by omega) (by omega) 1073741824 4 (by decide) (by decide)
  go_enter Try.func81, Try.ntmps81
  go_wp2
  go_ret
  exact ⟨rfl, rfl⟩
theorem turn2 (x : UInt32) (w : World) : Calls Try.prog 77 #[.int .u32 (w32 x), .int .i64 2] w fun r w' => r = .returned (.int .u32 (w32 (rotr x 2))) ∧ w = w' := by
  go_enter Try.func77, Try.ntmps77
  go_wp2_with (go_at_call 81; refine (rot2 x _).mono ?_; rintro r w' ⟨rfl, rfl⟩)
  go_ret
  exact ⟨rfl, rfl⟩
theorem ror2 (x : UInt32) (w : World) : Calls Try.prog 79 #[.int .u32 (w32 x), .int .i64 2] w fun r w' => r = .returned (.int .u32 (w32 (rotr x 2))) ∧ ∃ n, w' = w.drewN n := by
  have hx := w32_lt x
  have hr := rotr_sum x 2 (by omega) (by omega) 1073741824 4 (by decide) (by decide)
  go_enter Try.func79, Try.ntmps79
  go_wp2
  go_region
  all_goals (go_wp2; go_ret; exact ⟨rfl, 1, rfl⟩)
theorem rot13 (x : UInt32) (w : World) : Calls Try.prog 81 #[.int .u32 (w32 x), .int .i64 (-13)] w fun r w' => r = .returned (.int .u32 (w32 (rotr x 13))) ∧ w = w' := by
  have hx := w32_lt x
  have hs : bits BinOp.and IntKind.u64 (IntKind.u64.wrap (-13)) 31 = 19 := by decide
  have hr := rotr_or' x 13 (by omega) (by omega) 524288 8192 (by decide) (by decide)
  go_enter Try.func81, Try.ntmps81
  go_wp2
  go_ret
  exact ⟨rfl, rfl⟩
theorem turn13 (x : UInt32) (w : World) : Calls Try.prog 77 #[.int .u32 (w32 x), .int .i64 13] w fun r w' => r = .returned (.int .u32 (w32 (rotr x 13))) ∧ w = w' := by
  go_enter Try.func77, Try.ntmps77
  go_wp2_with (go_at_call 81; refine (rot13 x _).mono ?_; rintro r w' ⟨rfl, rfl⟩)
  go_ret
  exact ⟨rfl, rfl⟩
theorem ror13 (x : UInt32) (w : World) : Calls Try.prog 79 #[.int .u32 (w32 x), .int .i64 13] w fun r w' => r = .returned (.int .u32 (w32 (rotr x 13))) ∧ ∃ n, w' = w.drewN n := by
  have hx := w32_lt x
  have hr := rotr_sum x 13 (by omega) (by omega) 524288 8192 (by decide) (by decide)
  go_enter Try.func79, Try.ntmps79
  go_wp2
  go_region
  all_goals (go_wp2; go_ret; exact ⟨rfl, 1, rfl⟩)
theorem rot22 (x : UInt32) (w : World) : Calls Try.prog 81 #[.int .u32 (w32 x), .int .i64 (-22)] w fun r w' => r = .returned (.int .u32 (w32 (rotr x 22))) ∧ w = w' := by
  have hx := w32_lt x
  have hs : bits BinOp.and IntKind.u64 (IntKind.u64.wrap (-22)) 31 = 10 := by decide
  have hr := rotr_or' x 22 (by omega) (by omega) 1024 4194304 (by decide) (by decide)
  go_enter Try.func81, Try.ntmps81
  go_wp2
  go_ret
  exact ⟨rfl, rfl⟩
theorem turn22 (x : UInt32) (w : World) : Calls Try.prog 77 #[.int .u32 (w32 x), .int .i64 22] w fun r w' => r = .returned (.int .u32 (w32 (rotr x 22))) ∧ w = w' := by
  go_enter Try.func77, Try.ntmps77
  go_wp2_with (go_at_call 81; refine (rot22 x _).mono ?_; rintro r w' ⟨rfl, rfl⟩)
  go_ret
  exact ⟨rfl, rfl⟩
theorem ror22 (x : UInt32) (w : World) : Calls Try.prog 79 #[.int .u32 (w32 x), .int .i64 22] w fun r w' => r = .returned (.int .u32 (w32 (rotr x 22))) ∧ ∃ n, w' = w.drewN n := by
  have hx := w32_lt x
  have hr := rotr_sum x 22 (by omega) (by omega) 1024 4194304 (by decide) (by decide)
  go_enter Try.func79, Try.ntmps79
  go_wp2
  go_region
  all_goals (go_wp2; go_ret; exact ⟨rfl, 1, rfl⟩)
end Go.Proofs.Ythjceppddmecdaa
