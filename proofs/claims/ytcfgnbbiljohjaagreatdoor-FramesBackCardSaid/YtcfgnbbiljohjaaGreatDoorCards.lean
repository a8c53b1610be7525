/-
  DERIVED. GIVEN WITH THE SEED: THE CARDS: each row of YtcfgnbbiljohjaaGreatDoorRows.lean that lists a variable, with what it lists TIED to the program's text (the seventh form; the later family's looks); each row that meets fmt, with fmt's text TOLD by the authors' own Lean function (tested against real Go, not proved from fmt's source: count such statements apart). THE CARD IS WHAT COUNTS. Prove the row's statement (the work); the ties are given (YtcfgnbbiljohjaaGreatDoorTie.lean); close each card by the builder's one call (the guide's Derived/Test/ToyasCard.lean, 'card_holds'). Laid BY PROGRAM, IN A SANDBOX (cutbox-door.mjs). By AI agents, Wed Nov 11 2026. No macro, syntax, notation, axiom, sorry.
-/
import Derived.Test.YtcfgnbbiljohjaaGreatDoorRows
import GoSem.ClaimSeven
namespace Go.Proofs.YtcfgnbbiljohjaaGreatDoor
namespace Rows

/-- THE TIED CARD OF 'antiphonlaw24.FramesRaws'. -/
def framesRawsCard : Claim7 := { stood := { row := framesRawsRow, standIns := [], harness := (true, "322463193bf0af8164cd50e61f0b39f72a8c9d59f6e17050c62484900d1474b1"), looks := true }, kinds := [], alts := [], laidByText := true, laidKinds := [.data, .pinned], laidTests := true, laidLooks := .later }
def FramesRawsCardSaid : Prop := Claim7.holds Tryz.pinned (.plain (OpenSpec.ofChange framesRawsSpec)) framesRawsCard

/-- THE TIED CARD OF 'antiphonlaw24.FramesParses'. -/
def framesParsesCard : Claim7 := { stood := { row := framesParsesRow, standIns := [], harness := (true, "322463193bf0af8164cd50e61f0b39f72a8c9d59f6e17050c62484900d1474b1"), looks := true }, kinds := [], alts := [], laidByText := true, laidKinds := [.data, .pinned], laidTests := true, laidLooks := .later }
def FramesParsesCardSaid : Prop := Claim7.holds Tryz.pinned (.plain (OpenSpec.ofChange framesParsesSpec)) framesParsesCard

/-- THE TIED CARD OF 'antiphonlaw24.FramesBent'. -/
def framesBentCard : Claim7 := { stood := { row := framesBentRow, standIns := [], harness := (true, "322463193bf0af8164cd50e61f0b39f72a8c9d59f6e17050c62484900d1474b1"), looks := true }, kinds := [], alts := [], laidByText := true, laidKinds := [.data, .pinned], laidTests := true, laidLooks := .later }
def FramesBentCardSaid : Prop := Claim7.holds Tryz.pinned (.plain (OpenSpec.ofChange framesBentSpec)) framesBentCard

/-- THE TIED CARD OF 'antiphonlaw24.FramesOf'. -/
def framesOfCard : Claim7 := { stood := { row := framesOfRow, standIns := [], harness := (true, "322463193bf0af8164cd50e61f0b39f72a8c9d59f6e17050c62484900d1474b1"), looks := true }, kinds := [], alts := [], laidByText := true, laidKinds := [.data, .pinned], laidTests := true, laidLooks := .later }
def FramesOfCardSaid : Prop := Claim7.holds Tryz.pinned (.plain (OpenSpec.ofChange framesOfSpec)) framesOfCard

/-- THE TIED CARD OF 'antiphonlaw24.FramesReads'. -/
def framesReadsCard : Claim7 := { stood := { row := framesReadsRow, standIns := [], harness := (true, "322463193bf0af8164cd50e61f0b39f72a8c9d59f6e17050c62484900d1474b1"), looks := true }, kinds := [], alts := [], laidByText := true, laidKinds := [.data, .pinned], laidTests := true, laidLooks := .later }
def FramesReadsCardSaid : Prop := Claim7.holds Tryz.pinned (.plain (OpenSpec.ofChange framesReadsSpec)) framesReadsCard

/-- THE TIED CARD OF 'antiphonlaw24.FramesBack'. -/
def framesBackCard : Claim7 := { stood := { row := framesBackRow, standIns := [], harness := (true, "322463193bf0af8164cd50e61f0b39f72a8c9d59f6e17050c62484900d1474b1"), looks := true }, kinds := [], alts := [], laidByText := true, laidKinds := [.data, .pinned], laidTests := true, laidLooks := .later }
def FramesBackCardSaid : Prop := Claim7.holds Tryz.pinned (.plain (OpenSpec.ofChange framesBackSpec)) framesBackCard

/-- THE SECOND FORM's CARD OF 'antiphonlaw24.FramesRaws'. -/
def framesRawsUptoCard : Claim7 := { stood := { row := framesRawsUptoRow, standIns := [], harness := (true, "322463193bf0af8164cd50e61f0b39f72a8c9d59f6e17050c62484900d1474b1"), looks := true }, kinds := [], alts := [], laidByText := true, laidKinds := [.data, .pinned], laidTests := true, laidLooks := .later }
def FramesRawsUptoCardSaid : Prop := Claim7.holds Tryz.pinned (.plain (OpenSpec.upto framesRawsSpec)) framesRawsUptoCard

/-- THE SECOND FORM's CARD OF 'antiphonlaw24.FramesParses'. -/
def framesParsesUptoCard : Claim7 := { stood := { row := framesParsesUptoRow, standIns := [], harness := (true, "322463193bf0af8164cd50e61f0b39f72a8c9d59f6e17050c62484900d1474b1"), looks := true }, kinds := [], alts := [], laidByText := true, laidKinds := [.data, .pinned], laidTests := true, laidLooks := .later }
def FramesParsesUptoCardSaid : Prop := Claim7.holds Tryz.pinned (.plain (OpenSpec.upto framesParsesSpec)) framesParsesUptoCard

/-- THE SECOND FORM's CARD OF 'antiphonlaw24.FramesBent'. -/
def framesBentUptoCard : Claim7 := { stood := { row := framesBentUptoRow, standIns := [], harness := (true, "322463193bf0af8164cd50e61f0b39f72a8c9d59f6e17050c62484900d1474b1"), looks := true }, kinds := [], alts := [], laidByText := true, laidKinds := [.data, .pinned], laidTests := true, laidLooks := .later }
def FramesBentUptoCardSaid : Prop := Claim7.holds Tryz.pinned (.plain (OpenSpec.upto framesBentSpec)) framesBentUptoCard

/-- THE SECOND FORM's CARD OF 'antiphonlaw24.FramesOf'. -/
def framesOfUptoCard : Claim7 := { stood := { row := framesOfUptoRow, standIns := [], harness := (true, "322463193bf0af8164cd50e61f0b39f72a8c9d59f6e17050c62484900d1474b1"), looks := true }, kinds := [], alts := [], laidByText := true, laidKinds := [.data, .pinned], laidTests := true, laidLooks := .later }
def FramesOfUptoCardSaid : Prop := Claim7.holds Tryz.pinned (.plain (OpenSpec.upto framesOfSpec)) framesOfUptoCard

/-- THE SECOND FORM's CARD OF 'antiphonlaw24.FramesReads'. -/
def framesReadsUptoCard : Claim7 := { stood := { row := framesReadsUptoRow, standIns := [], harness := (true, "322463193bf0af8164cd50e61f0b39f72a8c9d59f6e17050c62484900d1474b1"), looks := true }, kinds := [], alts := [], laidByText := true, laidKinds := [.data, .pinned], laidTests := true, laidLooks := .later }
def FramesReadsUptoCardSaid : Prop := Claim7.holds Tryz.pinned (.plain (OpenSpec.upto framesReadsSpec)) framesReadsUptoCard

/-- THE SECOND FORM's CARD OF 'antiphonlaw24.FramesBack'. -/
def framesBackUptoCard : Claim7 := { stood := { row := framesBackUptoRow, standIns := [], harness := (true, "322463193bf0af8164cd50e61f0b39f72a8c9d59f6e17050c62484900d1474b1"), looks := true }, kinds := [], alts := [], laidByText := true, laidKinds := [.data, .pinned], laidTests := true, laidLooks := .later }
def FramesBackUptoCardSaid : Prop := Claim7.holds Tryz.pinned (.plain (OpenSpec.upto framesBackSpec)) framesBackUptoCard
end Rows
end Go.Proofs.YtcfgnbbiljohjaaGreatDoor
