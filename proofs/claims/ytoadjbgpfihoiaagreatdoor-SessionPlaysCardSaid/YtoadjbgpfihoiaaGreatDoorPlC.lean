/- Texts SFPlays, one behind the other. Conditions: as each says. -/
import Derived.JoinedOf
import Derived.Test.YtoadjbgpfihoiaaGreatDoorTie
import Derived.Test.YtoadjbgpfihoiaaGreatDoorCards
set_option linter.unusedVariables false
set_option linter.unusedSimpArgs false
set_option maxHeartbeats 8000000
set_option maxRecDepth 100000
namespace Go.Proofs.YtoadjbgpfihoiaaGreatDoor
theorem sessionPlays_fa : (Rows.sessionPlaysRow.inPlace == Tryz.checked.prog.inPlace 7) = true := by kernel_rfl
theorem sessionPlays_fb : (Rows.sessionPlaysRow.unfollowed == Tryz.checked.prog.unfollowed 7) = true := by kernel_rfl
theorem sessionPlays_fc : (Rows.sessionPlaysRow.recurses == Tryz.checked.prog.recurses 7) = true := by kernel_rfl
theorem sessionPlays_fd : (Rows.sessionPlaysRow.named == Tryz.checked.prog.varsNamed 7) = true := by kernel_rfl
theorem sessionPlays_facts : joinedFacts Tryz.checked.prog 7 Tryz.f7 Rows.sessionPlaysSpec Rows.sessionPlaysRow = true := by
 unfold joinedFacts; rw [sessionPlays_fa, sessionPlays_fb, sessionPlays_fc, sessionPlays_fd]; kernel_rfl
end Go.Proofs.YtoadjbgpfihoiaaGreatDoor
