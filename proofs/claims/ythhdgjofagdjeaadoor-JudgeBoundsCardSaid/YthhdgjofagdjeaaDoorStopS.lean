/- A walk that is held before an append, so that what lies in memory can be named first. No program is named here. -/
import Derived.Test.YthhdgjofagdjeaaDoorRowsS
set_option linter.unusedVariables false
set_option linter.unusedSimpArgs false
namespace Go.Proofs.YthhdgjofagdjeaaDoor
structure Stopped (p : Prop) : Prop where
  out : p
def TwoB (a b : Nat) : Nat → Prop := fun k => k = a ∨ k = b
theorem standing {p : Prop} (h : Stopped p) : p := h.out
end Go.Proofs.YthhdgjofagdjeaaDoor
