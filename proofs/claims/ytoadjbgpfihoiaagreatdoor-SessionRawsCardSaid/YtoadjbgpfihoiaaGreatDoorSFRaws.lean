/- The facts of the program's text that SessionRaws' card asks for, each by itself. No condition. -/
import Derived.JoinedOf
import Derived.Test.YtoadjbgpfihoiaaGreatDoorTie
import Derived.Test.YtoadjbgpfihoiaaGreatDoorCards
set_option maxRecDepth 100000
namespace Go.Proofs.YtoadjbgpfihoiaaGreatDoor
theorem sessionRaws_fa : (Rows.sessionRawsRow.inPlace == Tryz.checked.prog.inPlace 5) = true := by kernel_rfl
theorem sessionRaws_fb : (Rows.sessionRawsRow.unfollowed == Tryz.checked.prog.unfollowed 5) = true := by kernel_rfl
theorem sessionRaws_fc : (Rows.sessionRawsRow.recurses == Tryz.checked.prog.recurses 5) = true := by kernel_rfl
theorem sessionRaws_fd : (Rows.sessionRawsRow.named == Tryz.checked.prog.varsNamed 5) = true := by kernel_rfl
theorem sessionRaws_facts : joinedFacts Tryz.checked.prog 5 Tryz.f5 Rows.sessionRawsSpec Rows.sessionRawsRow = true := by
  unfold joinedFacts
  rw [sessionRaws_fa, sessionRaws_fb, sessionRaws_fc, sessionRaws_fd]
  kernel_rfl
end Go.Proofs.YtoadjbgpfihoiaaGreatDoor
