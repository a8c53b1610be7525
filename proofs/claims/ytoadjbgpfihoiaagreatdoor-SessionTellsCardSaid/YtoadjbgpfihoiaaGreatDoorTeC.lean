/- Texts SFTells, one behind the other. Conditions: as each says. -/
import Derived.JoinedOf
import Derived.Test.YtoadjbgpfihoiaaGreatDoorTie
import Derived.Test.YtoadjbgpfihoiaaGreatDoorCards
set_option linter.unusedVariables false
set_option linter.unusedSimpArgs false
set_option maxHeartbeats 8000000
set_option maxRecDepth 100000
namespace Go.Proofs.YtoadjbgpfihoiaaGreatDoor
theorem sessionTells_fa : (Rows.sessionTellsRow.inPlace == Tryz.checked.prog.inPlace 6) = true := by kernel_rfl
theorem sessionTells_fb : (Rows.sessionTellsRow.unfollowed == Tryz.checked.prog.unfollowed 6) = true := by kernel_rfl
theorem sessionTells_fc : (Rows.sessionTellsRow.recurses == Tryz.checked.prog.recurses 6) = true := by kernel_rfl
theorem sessionTells_fd : (Rows.sessionTellsRow.named == Tryz.checked.prog.varsNamed 6) = true := by kernel_rfl
theorem sessionTells_facts : joinedFacts Tryz.checked.prog 6 Tryz.f6 Rows.sessionTellsSpec Rows.sessionTellsRow = true := by
 unfold joinedFacts; rw [sessionTells_fa, sessionTells_fb, sessionTells_fc, sessionTells_fd]; kernel_rfl
end Go.Proofs.YtoadjbgpfihoiaaGreatDoor
