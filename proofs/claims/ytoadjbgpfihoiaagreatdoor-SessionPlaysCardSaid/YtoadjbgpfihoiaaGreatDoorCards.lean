/-
  DERIVED. GIVEN WITH THE SEED: THE CARDS: each row of YtoadjbgpfihoiaaGreatDoorRows.lean that lists a variable, with what it lists TIED to the program's text (the seventh form; the later family's looks); each row that meets fmt, with fmt's text TOLD by the authors' own Lean function (tested against real Go, not proved from fmt's source: count such statements apart). THE CARD IS WHAT COUNTS. Prove the row's statement (the work); the ties are given (YtoadjbgpfihoiaaGreatDoorTie.lean); close each card by the builder's one call (the guide's Derived/Test/ToyasCard.lean, 'card_holds'). Laid BY PROGRAM, IN A SANDBOX (cutbox-door.mjs). By AI agents, Wed Nov 11 2026. No macro, syntax, notation, axiom, sorry.
-/
import Derived.Test.YtoadjbgpfihoiaaGreatDoorRows
import GoSem.ClaimSeven
namespace Go.Proofs.YtoadjbgpfihoiaaGreatDoor
namespace Rows

/-- THE TIED CARD OF 'antiphonlaw28.ClientFull'. -/
def clientFullCard : Claim7 := { stood := { row := clientFullRow, standIns := [], harness := (true, "c6a80e381de6fd43f649cbb4013f225040db4c692a4aafc42c418c8972076e24"), looks := true }, kinds := [], alts := [], laidByText := true, laidKinds := [.data, .pinned], laidTests := true, laidLooks := .later }
def ClientFullCardSaid : Prop := Claim7.holds Tryz.pinned (.plain (OpenSpec.ofChange clientFullSpec)) clientFullCard

/-- THE TIED CARD OF 'antiphonlaw28.ClientCopies'. -/
def clientCopiesCard : Claim7 := { stood := { row := clientCopiesRow, standIns := [], harness := (true, "c6a80e381de6fd43f649cbb4013f225040db4c692a4aafc42c418c8972076e24"), looks := true }, kinds := [], alts := [], laidByText := true, laidKinds := [.data, .pinned], laidTests := true, laidLooks := .later }
def ClientCopiesCardSaid : Prop := Claim7.holds Tryz.pinned (.plain (OpenSpec.ofChange clientCopiesSpec)) clientCopiesCard

/-- THE TIED CARD OF 'antiphonlaw26.SessionRaws'. -/
def sessionRawsCard : Claim7 := { stood := { row := sessionRawsRow, standIns := [], harness := (true, "c6a80e381de6fd43f649cbb4013f225040db4c692a4aafc42c418c8972076e24"), looks := true }, kinds := [], alts := [], laidByText := true, laidKinds := [.data, .pinned], laidTests := true, laidLooks := .later }
def SessionRawsCardSaid : Prop := Claim7.holds Tryz.pinned (.plain (OpenSpec.ofChange sessionRawsSpec)) sessionRawsCard

/-- THE TIED CARD OF 'antiphonlaw26.SessionTells'. -/
def sessionTellsCard : Claim7 := { stood := { row := sessionTellsRow, standIns := [], harness := (true, "c6a80e381de6fd43f649cbb4013f225040db4c692a4aafc42c418c8972076e24"), looks := true }, kinds := [], alts := [], laidByText := true, laidKinds := [.data, .pinned], laidTests := true, laidLooks := .later }
def SessionTellsCardSaid : Prop := Claim7.holds Tryz.pinned (.plain (OpenSpec.ofChange sessionTellsSpec)) sessionTellsCard

/-- THE TIED CARD OF 'antiphonlaw26.SessionPlays'. -/
def sessionPlaysCard : Claim7 := { stood := { row := sessionPlaysRow, standIns := [], harness := (true, "c6a80e381de6fd43f649cbb4013f225040db4c692a4aafc42c418c8972076e24"), looks := true }, kinds := [], alts := [], laidByText := true, laidKinds := [.data, .pinned], laidTests := true, laidLooks := .later }
def SessionPlaysCardSaid : Prop := Claim7.holds Tryz.pinned (.plain (OpenSpec.ofChange sessionPlaysSpec)) sessionPlaysCard

/-- THE TIED CARD OF 'antiphonlaw26.SessionCopies'. -/
def sessionCopiesCard : Claim7 := { stood := { row := sessionCopiesRow, standIns := [], harness := (true, "c6a80e381de6fd43f649cbb4013f225040db4c692a4aafc42c418c8972076e24"), looks := true }, kinds := [], alts := [], laidByText := true, laidKinds := [.data, .pinned], laidTests := true, laidLooks := .later }
def SessionCopiesCardSaid : Prop := Claim7.holds Tryz.pinned (.plain (OpenSpec.ofChange sessionCopiesSpec)) sessionCopiesCard

/-- THE SECOND FORM's CARD OF 'antiphonlaw28.ClientFull'. -/
def clientFullUptoCard : Claim7 := { stood := { row := clientFullUptoRow, standIns := [], harness := (true, "c6a80e381de6fd43f649cbb4013f225040db4c692a4aafc42c418c8972076e24"), looks := true }, kinds := [], alts := [], laidByText := true, laidKinds := [.data, .pinned], laidTests := true, laidLooks := .later }
def ClientFullUptoCardSaid : Prop := Claim7.holds Tryz.pinned (.plain (OpenSpec.upto clientFullSpec)) clientFullUptoCard

/-- THE SECOND FORM's CARD OF 'antiphonlaw28.ClientCopies'. -/
def clientCopiesUptoCard : Claim7 := { stood := { row := clientCopiesUptoRow, standIns := [], harness := (true, "c6a80e381de6fd43f649cbb4013f225040db4c692a4aafc42c418c8972076e24"), looks := true }, kinds := [], alts := [], laidByText := true, laidKinds := [.data, .pinned], laidTests := true, laidLooks := .later }
def ClientCopiesUptoCardSaid : Prop := Claim7.holds Tryz.pinned (.plain (OpenSpec.upto clientCopiesSpec)) clientCopiesUptoCard

/-- THE SECOND FORM's CARD OF 'antiphonlaw26.SessionRaws'. -/
def sessionRawsUptoCard : Claim7 := { stood := { row := sessionRawsUptoRow, standIns := [], harness := (true, "c6a80e381de6fd43f649cbb4013f225040db4c692a4aafc42c418c8972076e24"), looks := true }, kinds := [], alts := [], laidByText := true, laidKinds := [.data, .pinned], laidTests := true, laidLooks := .later }
def SessionRawsUptoCardSaid : Prop := Claim7.holds Tryz.pinned (.plain (OpenSpec.upto sessionRawsSpec)) sessionRawsUptoCard

/-- THE SECOND FORM's CARD OF 'antiphonlaw26.SessionTells'. -/
def sessionTellsUptoCard : Claim7 := { stood := { row := sessionTellsUptoRow, standIns := [], harness := (true, "c6a80e381de6fd43f649cbb4013f225040db4c692a4aafc42c418c8972076e24"), looks := true }, kinds := [], alts := [], laidByText := true, laidKinds := [.data, .pinned], laidTests := true, laidLooks := .later }
def SessionTellsUptoCardSaid : Prop := Claim7.holds Tryz.pinned (.plain (OpenSpec.upto sessionTellsSpec)) sessionTellsUptoCard

/-- THE SECOND FORM's CARD OF 'antiphonlaw26.SessionPlays'. -/
def sessionPlaysUptoCard : Claim7 := { stood := { row := sessionPlaysUptoRow, standIns := [], harness := (true, "c6a80e381de6fd43f649cbb4013f225040db4c692a4aafc42c418c8972076e24"), looks := true }, kinds := [], alts := [], laidByText := true, laidKinds := [.data, .pinned], laidTests := true, laidLooks := .later }
def SessionPlaysUptoCardSaid : Prop := Claim7.holds Tryz.pinned (.plain (OpenSpec.upto sessionPlaysSpec)) sessionPlaysUptoCard

/-- THE SECOND FORM's CARD OF 'antiphonlaw26.SessionCopies'. -/
def sessionCopiesUptoCard : Claim7 := { stood := { row := sessionCopiesUptoRow, standIns := [], harness := (true, "c6a80e381de6fd43f649cbb4013f225040db4c692a4aafc42c418c8972076e24"), looks := true }, kinds := [], alts := [], laidByText := true, laidKinds := [.data, .pinned], laidTests := true, laidLooks := .later }
def SessionCopiesUptoCardSaid : Prop := Claim7.holds Tryz.pinned (.plain (OpenSpec.upto sessionCopiesSpec)) sessionCopiesUptoCard
end Rows
end Go.Proofs.YtoadjbgpfihoiaaGreatDoor
