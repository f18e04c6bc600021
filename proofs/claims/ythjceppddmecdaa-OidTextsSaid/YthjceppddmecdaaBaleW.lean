/- The walks of package bale's methods that take: each answers as the plain function of the same name. No condition but that the receiver is a bale. -/
import Derived.Test.YthjceppddmecdaaRows
import Derived.Test.YthjceppddmecdaaBase
import Derived.Test.YthjceppddmecdaaBaleP
import Derived.Test.YthjceppddmecdaaOps
import Derived.WalkKit
import Derived.WalkSpells
import Derived.WalkLawsBesides
import Derived.BigQuiet
import Derived.Deep.QuietTactic
set_option linter.unusedSimpArgs false
set_option linter.unusedVariables false
namespace Go.Proofs.Ythjceppddmecdaa
open Go.RowKit
attribute [local go_sem] extract_mid extract_drop bget bsize wrap64_u8 i64_u8 u64_u8

/-- The method Num where the length byte is good: the bytes that follow are not empty and begin with no 0. -/
theorem pow_le8 (k : Nat) (h : k ≤ 7) : 256 ^ k ≤ 72057594037927936 := by
  have := Nat.pow_le_pow_right (n := 256) (by omega) h
  simpa using this
end Go.Proofs.Ythjceppddmecdaa
