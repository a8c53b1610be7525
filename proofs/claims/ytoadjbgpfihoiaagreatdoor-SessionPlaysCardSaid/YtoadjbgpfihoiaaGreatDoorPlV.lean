/- Texts IterF, one behind the other. Conditions: as each says. -/
import Derived.Test.YtoadjbgpfihoiaaGreatDoorPlP
set_option linter.unusedVariables false
set_option linter.unusedSimpArgs false
set_option maxHeartbeats 8000000
set_option maxRecDepth 100000
namespace Go.Proofs.YtoadjbgpfihoiaaGreatDoor
open Go.RowKit
section
attribute [local go_sem] Oper.semAt_some
def endR (R Rx : Nat → Res) (n : Nat) : Res := someR fun c : { r : Res // r = R n ∨ ∃ j, j < n ∧ r = Rx (j + 1) } => c.1
end
end Go.Proofs.YtoadjbgpfihoiaaGreatDoor
