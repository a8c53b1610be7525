/-
  DERIVED. GIVEN WITH THE SEED: THE CARDS: each row of YthhdgjofagdjeaaGreatDoorRows.lean that lists a variable, with what it lists TIED to the program's text (the seventh form; the later family's looks); each row that meets fmt, with fmt's text TOLD by the authors' own Lean function (tested against real Go, not proved from fmt's source: count such statements apart). THE CARD IS WHAT COUNTS. Prove the row's statement (the work); the ties are given (YthhdgjofagdjeaaGreatDoorTie.lean); close each card by the builder's one call (the guide's Derived/Test/ToyasCard.lean, 'card_holds'). Laid BY PROGRAM, IN A SANDBOX (cutbox-door.mjs). By AI agents, Wed Nov 11 2026. No macro, syntax, notation, axiom, sorry.
-/
import Derived.Test.YthhdgjofagdjeaaGreatDoorRows
import GoSem.ClaimSeven
namespace Go.Proofs.YthhdgjofagdjeaaGreatDoor
namespace Rows

/-- THE TIED CARD OF 'antiphonlaw30.JudgeSees'. -/
def judgeSeesCard : Claim7 := { stood := { row := judgeSeesRow, standIns := [], harness := (true, "db54cf020838d5228f5cdc4c6a8f727448b6e21d713f0aa71e77faea48e7f884"), looks := true }, kinds := [], alts := [], laidByText := true, laidKinds := [.data, .pinned], laidTests := true, laidLooks := .later }
def JudgeSeesCardSaid : Prop := Claim7.holds Tryz.pinned (.plain (OpenSpec.ofChange judgeSeesSpec)) judgeSeesCard

/-- THE TIED CARD OF 'antiphonlaw30.JudgeCopies'. -/
def judgeCopiesCard : Claim7 := { stood := { row := judgeCopiesRow, standIns := [], harness := (true, "db54cf020838d5228f5cdc4c6a8f727448b6e21d713f0aa71e77faea48e7f884"), looks := true }, kinds := [], alts := [], laidByText := true, laidKinds := [.data, .pinned], laidTests := true, laidLooks := .later }
def JudgeCopiesCardSaid : Prop := Claim7.holds Tryz.pinned (.plain (OpenSpec.ofChange judgeCopiesSpec)) judgeCopiesCard

/-- THE SECOND FORM's CARD OF 'antiphonlaw30.JudgeSees'. -/
def judgeSeesUptoCard : Claim7 := { stood := { row := judgeSeesUptoRow, standIns := [], harness := (true, "db54cf020838d5228f5cdc4c6a8f727448b6e21d713f0aa71e77faea48e7f884"), looks := true }, kinds := [], alts := [], laidByText := true, laidKinds := [.data, .pinned], laidTests := true, laidLooks := .later }
def JudgeSeesUptoCardSaid : Prop := Claim7.holds Tryz.pinned (.plain (OpenSpec.upto judgeSeesSpec)) judgeSeesUptoCard

/-- THE SECOND FORM's CARD OF 'antiphonlaw30.JudgeCopies'. -/
def judgeCopiesUptoCard : Claim7 := { stood := { row := judgeCopiesUptoRow, standIns := [], harness := (true, "db54cf020838d5228f5cdc4c6a8f727448b6e21d713f0aa71e77faea48e7f884"), looks := true }, kinds := [], alts := [], laidByText := true, laidKinds := [.data, .pinned], laidTests := true, laidLooks := .later }
def JudgeCopiesUptoCardSaid : Prop := Claim7.holds Tryz.pinned (.plain (OpenSpec.upto judgeCopiesSpec)) judgeCopiesUptoCard
end Rows
end Go.Proofs.YthhdgjofagdjeaaGreatDoor
