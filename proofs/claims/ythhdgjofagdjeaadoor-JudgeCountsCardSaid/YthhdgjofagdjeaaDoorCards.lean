/-
  DERIVED. GIVEN WITH THE SEED: THE CARDS: each row of YthhdgjofagdjeaaDoorRows.lean that lists a variable, with what it lists TIED to the program's text (the seventh form; the later family's looks); each row that meets fmt, with fmt's text TOLD by the authors' own Lean function (tested against real Go, not proved from fmt's source: count such statements apart). THE CARD IS WHAT COUNTS. Prove the row's statement (the work); the ties are given (YthhdgjofagdjeaaDoorTie.lean); close each card by the builder's one call (the guide's Derived/Test/ToyasCard.lean, 'card_holds'). Laid BY PROGRAM, IN A SANDBOX (cutbox-door.mjs). By AI agents, Wed Nov 11 2026. No macro, syntax, notation, axiom, sorry.
-/
import Derived.Test.YthhdgjofagdjeaaDoorRows
import GoSem.ClaimSeven
namespace Go.Proofs.YthhdgjofagdjeaaDoor
namespace Rows

/-- THE TIED CARD OF 'antiphonlaw30.JudgeBounds'. -/
def judgeBoundsCard : Claim7 := { stood := { row := judgeBoundsRow, standIns := [], harness := (true, "d30a88063cc45bb594a31836deebda8a35b1838f4e24d9257d1be4e8b094926a"), looks := true }, kinds := [], alts := [], laidByText := true, laidKinds := [.data, .pinned], laidTests := true, laidLooks := .later }
def JudgeBoundsCardSaid : Prop := Claim7.holds Tryd.pinned (.plain (OpenSpec.ofChange judgeBoundsSpec)) judgeBoundsCard

/-- THE TIED CARD OF 'antiphonlaw30.JudgeLeaves'. -/
def judgeLeavesCard : Claim7 := { stood := { row := judgeLeavesRow, standIns := [], harness := (true, "d30a88063cc45bb594a31836deebda8a35b1838f4e24d9257d1be4e8b094926a"), looks := true }, kinds := [], alts := [], laidByText := true, laidKinds := [.data, .pinned], laidTests := true, laidLooks := .later }
def JudgeLeavesCardSaid : Prop := Claim7.holds Tryd.pinned (.plain (OpenSpec.ofChange judgeLeavesSpec)) judgeLeavesCard

/-- THE TIED CARD OF 'antiphonlaw30.JudgeCounts'. -/
def judgeCountsCard : Claim7 := { stood := { row := judgeCountsRow, standIns := [], harness := (true, "d30a88063cc45bb594a31836deebda8a35b1838f4e24d9257d1be4e8b094926a"), looks := true }, kinds := [], alts := [], laidByText := true, laidKinds := [.data, .pinned], laidTests := true, laidLooks := .later }
def JudgeCountsCardSaid : Prop := Claim7.holds Tryd.pinned (.plain (OpenSpec.ofChange judgeCountsSpec)) judgeCountsCard

/-- THE SECOND FORM's CARD OF 'antiphonlaw30.JudgeBounds'. -/
def judgeBoundsUptoCard : Claim7 := { stood := { row := judgeBoundsUptoRow, standIns := [], harness := (true, "d30a88063cc45bb594a31836deebda8a35b1838f4e24d9257d1be4e8b094926a"), looks := true }, kinds := [], alts := [], laidByText := true, laidKinds := [.data, .pinned], laidTests := true, laidLooks := .later }
def JudgeBoundsUptoCardSaid : Prop := Claim7.holds Tryd.pinned (.plain (OpenSpec.upto judgeBoundsSpec)) judgeBoundsUptoCard

/-- THE SECOND FORM's CARD OF 'antiphonlaw30.JudgeLeaves'. -/
def judgeLeavesUptoCard : Claim7 := { stood := { row := judgeLeavesUptoRow, standIns := [], harness := (true, "d30a88063cc45bb594a31836deebda8a35b1838f4e24d9257d1be4e8b094926a"), looks := true }, kinds := [], alts := [], laidByText := true, laidKinds := [.data, .pinned], laidTests := true, laidLooks := .later }
def JudgeLeavesUptoCardSaid : Prop := Claim7.holds Tryd.pinned (.plain (OpenSpec.upto judgeLeavesSpec)) judgeLeavesUptoCard

/-- THE SECOND FORM's CARD OF 'antiphonlaw30.JudgeCounts'. -/
def judgeCountsUptoCard : Claim7 := { stood := { row := judgeCountsUptoRow, standIns := [], harness := (true, "d30a88063cc45bb594a31836deebda8a35b1838f4e24d9257d1be4e8b094926a"), looks := true }, kinds := [], alts := [], laidByText := true, laidKinds := [.data, .pinned], laidTests := true, laidLooks := .later }
def JudgeCountsUptoCardSaid : Prop := Claim7.holds Tryd.pinned (.plain (OpenSpec.upto judgeCountsSpec)) judgeCountsUptoCard
end Rows
end Go.Proofs.YthhdgjofagdjeaaDoor
