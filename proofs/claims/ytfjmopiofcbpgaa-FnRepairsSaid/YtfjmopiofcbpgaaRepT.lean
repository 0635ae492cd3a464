/- Repairs, the reference: the repaired word. No condition but the bounds. -/
import Derived.Test.YtfjmopiofcbpgaaRepS
import Derived.Test.YtfjmopiofcbpgaaRepJ
namespace Go.Proofs.Ytfjmopiofcbpgaa
open Go.RowKit
set_option linter.unusedVariables false

def totN (st : Bool) (ss : List ByteArray) (l : List UInt8) : Int := if tot st ss l < 1000 then tot st ss l else -1
end Go.Proofs.Ytfjmopiofcbpgaa
