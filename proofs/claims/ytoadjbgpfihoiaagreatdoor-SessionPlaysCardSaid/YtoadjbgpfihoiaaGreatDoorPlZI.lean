/- Texts DocParseW, one behind the other. Conditions: as each says. -/
import Derived.Test.YtoadjbgpfihoiaaGreatDoorPlZH
set_option linter.unusedVariables false
set_option linter.unusedSimpArgs false
set_option maxHeartbeats 8000000
set_option maxRecDepth 100000
namespace Go.Proofs.YtoadjbgpfihoiaaGreatDoor
open Go.RowKit

end Go.Proofs.YtoadjbgpfihoiaaGreatDoor
