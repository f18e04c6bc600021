/- OidDistance: for all texts the law answers true. No condition. -/
import Derived.Test.YthjceppddmecdaaOidDist1
import Derived.Test.YthjceppddmecdaaOidDist2
import Derived.Test.YthjceppddmecdaaOidDist3
import Derived.Test.YthjceppddmecdaaOidD
import Derived.Test.YthjceppddmecdaaLaw
set_option linter.unusedSimpArgs false
set_option linter.unusedVariables false
namespace Go.Proofs.Ythjceppddmecdaa
open Go.RowKit
attribute [local go_sem] extract_mid extract_drop bget bsize wrap64_u8 i64_u8 u64_u8 bappend
set_option maxRecDepth 100000 in
theorem oidDistance_walk {F : List SProp} (a0 : List UInt8) (_w0 : a0.length ≤ 9223372036854775807) (b0' : List UInt8) (_w1 : b0'.length ≤ 9223372036854775807) (c0 : List UInt8) (_w2 : c0.length ≤ 9223372036854775807) (w : World) (hM : Star F w) :
    Calls Try.prog 4 #[.string ⟨a0.toArray⟩, .string ⟨b0'.toArray⟩, .string ⟨c0.toArray⟩] w fun r w' => r = .returned (.bool true) ∧ Star F w' := by
  have N1 := name_any a0
  have N2 := name_any b0'
  have N3 := name_any c0
  have hx := idOf_len a0
  have hy := idOf_len b0'
  have hz := idOf_len c0
  generalize idOf a0 = x at N1 hx
  generalize idOf b0' = y at N2 hy
  generalize idOf c0 = z at N3 hz
  have lt32 : ∀ l : List UInt8, l.length = 32 → numOf l < 2 ^ 256 := fun l h => by have := numOf_lt l; rwa [h, pow256] at this
  obtain ⟨s, hs⟩ := IsShared.exists_ (numOf x ^^^ numOf y) (Nat.xor_lt_two_pow (lt32 x hx) (lt32 y hy))
  obtain ⟨t, ht⟩ := IsShared.exists_ (numOf x ^^^ numOf z) (Nat.xor_lt_two_pow (lt32 x hx) (lt32 z hz))
  obtain ⟨u, hu⟩ := IsShared.exists_ (numOf z ^^^ numOf y) (Nat.xor_lt_two_pow (lt32 z hz) (lt32 y hy))
  have htri := hs.tri ht hu
  have hs6 := hs.1
  have ht6 := ht.1
  have hu6 := hu.1
  have hmin : (if (u : Int) < (t : Int) then (u : Int) else (t : Int)) = ((min t u : Nat) : Int) := by split <;> omega
  have hdz := xorL_zero hx hy
  have hnf := near_far (g := z) hx hy
  have hd := xor32 hx hy
  have CXY : ∀ {L : List SProp} (w : World), Star L w → Calls Try.prog 16 #[.agg (bvs x).toArray, .agg (bvs y).toArray] w fun r w' => r = .returned (.agg (bvs (xorL x y)).toArray) ∧ Star L w' := fun w hM => xor_star x y hx hy w hM
  have CYX : ∀ {L : List SProp} (w : World), Star L w → Calls Try.prog 16 #[.agg (bvs y).toArray, .agg (bvs x).toArray] w fun r w' => r = .returned (.agg (bvs (xorL x y)).toArray) ∧ Star L w' := fun w hM => by have := xor_star y x hy hx w hM; rwa [xorL_comm hx hy] at this
  have CDY : ∀ {L : List SProp} (w : World), Star L w → Calls Try.prog 16 #[.agg (bvs (xorL x y)).toArray, .agg (bvs y).toArray] w fun r w' => r = .returned (.agg (bvs x).toArray) ∧ Star L w' := fun w hM => by have := xor_star _ y hd hy w hM; rwa [xorL_cancel hx hy] at this
  have CPQ : ∀ {L : List SProp} (w : World), Star L w → Calls Try.prog 16 #[.agg (bvs (xorL x z)).toArray, .agg (bvs (xorL z y)).toArray] w fun r w' => r = .returned (.agg (bvs (xorL x y)).toArray) ∧ Star L w' := fun w hM => by have := xor_star _ _ (xor32 hx hz) (xor32 hz hy) w hM; rwa [xorL_through hx hy hz] at this
  have CXZ : ∀ {L : List SProp} (w : World), Star L w → Calls Try.prog 16 #[.agg (bvs x).toArray, .agg (bvs z).toArray] w fun r w' => r = .returned (.agg (bvs (xorL x z)).toArray) ∧ Star L w' := fun w hM => xor_star x z hx hz w hM
  have CZY : ∀ {L : List SProp} (w : World), Star L w → Calls Try.prog 16 #[.agg (bvs z).toArray, .agg (bvs y).toArray] w fun r w' => r = .returned (.agg (bvs (xorL z y)).toArray) ∧ Star L w' := fun w hM => xor_star z y hz hy w hM
  generalize xorL x y = d at CXY CYX CDY CPQ hd hdz
  generalize xorL x z = p at CXZ CPQ
  generalize xorL z y = q at CZY CPQ
  have SXY : ∀ {L : List SProp} (w : World), Star L w → Calls Try.prog 18 #[.agg (bvs x).toArray, .agg (bvs y).toArray] w fun r w' => r = .returned (.int .i64 s) ∧ Star L w' := fun w hM => shared_star x y hx hy s hs w hM
  have SXZ : ∀ {L : List SProp} (w : World), Star L w → Calls Try.prog 18 #[.agg (bvs x).toArray, .agg (bvs z).toArray] w fun r w' => r = .returned (.int .i64 t) ∧ Star L w' := fun w hM => shared_star x z hx hz t ht w hM
  have SZY : ∀ {L : List SProp} (w : World), Star L w → Calls Try.prog 18 #[.agg (bvs z).toArray, .agg (bvs y).toArray] w fun r w' => r = .returned (.int .i64 u) ∧ Star L w' := fun w hM => shared_star z y hz hy u hu w hM
  obtain ⟨m, hm⟩ : ∃ m, m = min t u := ⟨_, rfl⟩
  rw [← hm] at htri hmin
  have hms : (m : Int) ≤ (s : Int) := by omega
  by_cases n1 : numOf z ^^^ numOf x < numOf z ^^^ numOf y
  · have n2 : ¬ (numOf z ^^^ numOf y < numOf z ^^^ numOf x) := by omega
    have CN : ∀ {L : List SProp} (w : World), Star L w → Calls Try.prog 20 #[.agg (bvs z).toArray, .agg (bvs x).toArray, .agg (bvs y).toArray] w fun r w' => r = .returned (.bool true) ∧ Star L w' := fun w hM => by
        have := closer_star z x y hz hx hy w hM; rwa [decide_eq_true n1] at this
    have CF : ∀ {L : List SProp} (w : World), Star L w → Calls Try.prog 20 #[.agg (bvs z).toArray, .agg (bvs y).toArray, .agg (bvs x).toArray] w fun r w' => r = .returned (.bool false) ∧ Star L w' := fun w hM => by
        have := closer_star z y x hz hy hx w hM; rwa [decide_eq_false n2] at this
    have E1 : Hid (decide (d = z32) = false) := by show _ = _; rw [decide_eq_decide.2 hdz]; exact decide_eq_false fun h => by have h3 := hnf.1 h; simp_all
    have E2 : Hid (decide (x = y) = false) := by show _ = _; exact decide_eq_false fun h => by have h3 := hnf.1 h; simp_all
    exact oidDistance_case1 N1 N2 N3 (Lib.hid hx) (Lib.hid hy) (Lib.hid hz) (Lib.hid hd) CXY CYX CDY CPQ CXZ CZY SXY SXZ SZY (Lib.hid hmin) (Lib.hid hms) CN CF E1 E2 w hM
  · by_cases n2 : numOf z ^^^ numOf y < numOf z ^^^ numOf x
    · skip
      have CN : ∀ {L : List SProp} (w : World), Star L w → Calls Try.prog 20 #[.agg (bvs z).toArray, .agg (bvs x).toArray, .agg (bvs y).toArray] w fun r w' => r = .returned (.bool false) ∧ Star L w' := fun w hM => by
          have := closer_star z x y hz hx hy w hM; rwa [decide_eq_false n1] at this
      have CF : ∀ {L : List SProp} (w : World), Star L w → Calls Try.prog 20 #[.agg (bvs z).toArray, .agg (bvs y).toArray, .agg (bvs x).toArray] w fun r w' => r = .returned (.bool true) ∧ Star L w' := fun w hM => by
          have := closer_star z y x hz hy hx w hM; rwa [decide_eq_true n2] at this
      have E1 : Hid (decide (d = z32) = false) := by show _ = _; rw [decide_eq_decide.2 hdz]; exact decide_eq_false fun h => by have h3 := hnf.1 h; simp_all
      have E2 : Hid (decide (x = y) = false) := by show _ = _; exact decide_eq_false fun h => by have h3 := hnf.1 h; simp_all
      exact oidDistance_case2 N1 N2 N3 (Lib.hid hx) (Lib.hid hy) (Lib.hid hz) (Lib.hid hd) CXY CYX CDY CPQ CXZ CZY SXY SXZ SZY (Lib.hid hmin) (Lib.hid hms) CN CF E1 E2 w hM
    · skip
      have CN : ∀ {L : List SProp} (w : World), Star L w → Calls Try.prog 20 #[.agg (bvs z).toArray, .agg (bvs x).toArray, .agg (bvs y).toArray] w fun r w' => r = .returned (.bool false) ∧ Star L w' := fun w hM => by
          have := closer_star z x y hz hx hy w hM; rwa [decide_eq_false n1] at this
      have CF : ∀ {L : List SProp} (w : World), Star L w → Calls Try.prog 20 #[.agg (bvs z).toArray, .agg (bvs y).toArray, .agg (bvs x).toArray] w fun r w' => r = .returned (.bool false) ∧ Star L w' := fun w hM => by
          have := closer_star z y x hz hy hx w hM; rwa [decide_eq_false n2] at this
      have E1 : Hid (decide (d = z32) = true) := by show _ = _; rw [decide_eq_decide.2 hdz]; exact decide_eq_true (hnf.2 ⟨n1, n2⟩)
      have E2 : Hid (decide (x = y) = true) := by show _ = _; exact decide_eq_true (hnf.2 ⟨n1, n2⟩)
      exact oidDistance_case3 N1 N2 N3 (Lib.hid hx) (Lib.hid hy) (Lib.hid hz) (Lib.hid hd) CXY CYX CDY CPQ CXZ CZY SXY SXZ SZY (Lib.hid hmin) (Lib.hid hms) CN CF E1 E2 w hM
end Go.Proofs.Ythjceppddmecdaa
