/- BanOk, both: whether a list of strings is a ban. -/
import Derived.Test.YtfjmopiofcbpgaaHelp
import Derived.Test.YtfjmopiofcbpgaaStr
namespace Go.Proofs.Ytfjmopiofcbpgaa
open Go.RowKit
set_option linter.unusedVariables false

/-- Whether a string may stand in a ban. -/
def banW (s : ByteArray) : Bool := isW (L s) && decide (1 ≤ s.size ∧ s.size ≤ 4)
/-- Whether a list of strings is a ban. -/
def banOk (ss : List ByteArray) : Bool := ss.all banW && decide (ss.length ≤ 8)

end Go.Proofs.Ytfjmopiofcbpgaa
