/- The walks of package bale's methods that take, second half: Int, Str, ID, IDs. No condition but that the receiver is a bale. -/
import Derived.Test.YthjceppddmecdaaBaleW
import Derived.Test.YthjceppddmecdaaArr
set_option linter.unusedSimpArgs false
set_option linter.unusedVariables false
namespace Go.Proofs.Ythjceppddmecdaa
open Go.RowKit
attribute [local go_sem] extract_mid extract_drop bget bsize wrap64_u8 i64_u8 u64_u8 bappend
end Go.Proofs.Ythjceppddmecdaa
