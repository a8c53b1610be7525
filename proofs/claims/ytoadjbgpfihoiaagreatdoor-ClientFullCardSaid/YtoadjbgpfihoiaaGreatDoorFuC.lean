/- Texts SFFull, one behind the other. Conditions: as each says. -/
import Derived.JoinedOf
import Derived.Test.YtoadjbgpfihoiaaGreatDoorTie
import Derived.Test.YtoadjbgpfihoiaaGreatDoorCards
set_option linter.unusedVariables false
set_option linter.unusedSimpArgs false
set_option maxHeartbeats 8000000
set_option maxRecDepth 100000
namespace Go.Proofs.YtoadjbgpfihoiaaGreatDoor
theorem clientFull_fa : (Rows.clientFullRow.inPlace == Tryz.checked.prog.inPlace 3) = true := by kernel_rfl
theorem clientFull_fb : (Rows.clientFullRow.unfollowed == Tryz.checked.prog.unfollowed 3) = true := by kernel_rfl
theorem clientFull_fc : (Rows.clientFullRow.recurses == Tryz.checked.prog.recurses 3) = true := by kernel_rfl
theorem clientFull_fd : (Rows.clientFullRow.named == Tryz.checked.prog.varsNamed 3) = true := by kernel_rfl
theorem clientFull_facts : joinedFacts Tryz.checked.prog 3 Tryz.f3 Rows.clientFullSpec Rows.clientFullRow = true := by
 unfold joinedFacts; rw [clientFull_fa, clientFull_fb, clientFull_fc, clientFull_fd]; kernel_rfl
end Go.Proofs.YtoadjbgpfihoiaaGreatDoor
