/-
  NARROWER THAN 'FOR EVERY INPUT', by the rows' own cells (each row's printed sentence says how): FramesRaws: laid · FramesParses: laid · FramesBent: laid · FramesOf: laid · FramesReads: laid · FramesBack: laid.
  DERIVED. THE GIVEN ROWS OF THIS SEAT. 6 by the template 'for every input the law returns true; each argument reads behind the call as it read before'; 0 by the template 'total and deterministic' (their statements: YtcfgnbbiljohjaaGreatDoorTotals.lean).
  GIVEN WITH THE SEED: the statements are not yours to turn. If you find one false, say at which input.
  Laid BY PROGRAM, IN A SANDBOX (cutbox-rows.mjs): the forced cells as the released guide's own fill.sh prints them over the translation 8b62aad5ecea2495… (all of the seat's roots in one cut). By AI agents, Wed Nov 11 2026. No macro, syntax, notation, axiom, sorry.
-/
import Derived.Test.YtcfgnbbiljohjaaGreatDoorChecked
import GoSem.PinnedTables
import GoSem.Claim
import GoSem.ClaimJoined
import GoSem.ClaimMapViews
import Derived.JoinedTies
import Derived.KernelRfl
namespace Go.Proofs.YtcfgnbbiljohjaaGreatDoor
/- THE CELL 'sum', in the pinned program and in every row, IS THE sha256 OF THE DUMP (.gsa) THAT YtcfgnbbiljohjaaGreatDoorProg.lean LOADS. Nothing in Lean hashes anything: it is a label: what it is worth is what the hold of that sum in a sandbox is worth. -/
noncomputable def Tryz.pinned : Pinned := { name := "ytcfgnbbiljohjaagreatdoor", sum := "8b62aad5ecea249589d7dc6c1b247162309fd50ddd9cfe75fc2d252a782e212c", checked := Tryz.checked }
namespace Rows
def none {H : Type} : Left H := { results := [], args := [] }

/- WHAT THE LISTED PACKAGE-LEVEL VARIABLES READ AS WHEN THE CALL BEGINS. Each datum BY PROGRAM (the guide's laid-datum.mjs) off the statement by which the dump's own 'gosem.cut.vars' lays the variable. In a bare row this is a premise. The card (YtcfgnbbiljohjaaGreatDoorCards.lean) ties it to the program's text. -/
def laid_unicode_utf8_acceptRanges {H : Type} : DataW H := .agg [.agg [.lit (.int .u8 128), .lit (.int .u8 191)], .agg [.lit (.int .u8 160), .lit (.int .u8 191)], .agg [.lit (.int .u8 128), .lit (.int .u8 159)], .agg [.lit (.int .u8 144), .lit (.int .u8 191)], .agg [.lit (.int .u8 128), .lit (.int .u8 143)], .agg [.lit (.int .u8 0), .lit (.int .u8 0)], .agg [.lit (.int .u8 0), .lit (.int .u8 0)], .agg [.lit (.int .u8 0), .lit (.int .u8 0)], .agg [.lit (.int .u8 0), .lit (.int .u8 0)], .agg [.lit (.int .u8 0), .lit (.int .u8 0)], .agg [.lit (.int .u8 0), .lit (.int .u8 0)], .agg [.lit (.int .u8 0), .lit (.int .u8 0)], .agg [.lit (.int .u8 0), .lit (.int .u8 0)], .agg [.lit (.int .u8 0), .lit (.int .u8 0)], .agg [.lit (.int .u8 0), .lit (.int .u8 0)], .agg [.lit (.int .u8 0), .lit (.int .u8 0)]]
/-- One of Go's own tables, pinned by name: the form's constant. -/
def laid_unicode_utf8_first : DataW Unit := Go.Pinned.utf8First

/-- 'antiphonlaw24.FramesRaws': WHATEVER THE INPUT: true; the input reads as it did. -/
def framesRawsSpec : ChangeSpec := { name := "framesRaws", fn := fun _ => fun
  | [d] => { results := [.lit (.bool true)], args := [d] }
  | _ => none }
def framesRawsRow : OpenClaim := { program := "ytcfgnbbiljohjaagreatdoor", sum := "8b62aad5ecea249589d7dc6c1b247162309fd50ddd9cfe75fc2d252a782e212c", func := "antiphon/antiphonlaw24.FramesRaws", spec := "framesRaws", inPlace := ["internal/bytealg.IndexByteString", "internal/bytealg.IndexString"], unfollowed := true, recurses := true, named := ["unicode/utf8.first", "unicode/utf8.acceptRanges", "internal/bytealg.MaxLen"], apart := false, laid := [("unicode/utf8.acceptRanges", laid_unicode_utf8_acceptRanges), ("unicode/utf8.first", laid_unicode_utf8_first)] }
def FramesRawsSaid : Prop := framesRawsRow.holds Tryz.pinned (OpenSpec.ofChange framesRawsSpec)

/-- ITS FALSE NEIGHBOUR: 'it returns false'. Refute it at one input. -/
def framesRawsWrong : ChangeSpec := { name := "framesRaws", fn := fun _ => fun
  | [d] => { results := [.lit (.bool false)], args := [d] }
  | _ => none }
def FramesRawsWrongFalsely : Prop := framesRawsRow.holds Tryz.pinned (OpenSpec.ofChange framesRawsWrong)

/-- 'antiphonlaw24.FramesParses': WHATEVER THE INPUT: true; the input reads as it did. -/
def framesParsesSpec : ChangeSpec := { name := "framesParses", fn := fun _ => fun
  | [d] => { results := [.lit (.bool true)], args := [d] }
  | _ => none }
def framesParsesRow : OpenClaim := { program := "ytcfgnbbiljohjaagreatdoor", sum := "8b62aad5ecea249589d7dc6c1b247162309fd50ddd9cfe75fc2d252a782e212c", func := "antiphon/antiphonlaw24.FramesParses", spec := "framesParses", inPlace := ["internal/bytealg.IndexByteString", "internal/bytealg.IndexString"], unfollowed := true, recurses := true, named := ["unicode/utf8.first", "unicode/utf8.acceptRanges", "internal/bytealg.MaxLen"], apart := false, laid := [("unicode/utf8.acceptRanges", laid_unicode_utf8_acceptRanges), ("unicode/utf8.first", laid_unicode_utf8_first)] }
def FramesParsesSaid : Prop := framesParsesRow.holds Tryz.pinned (OpenSpec.ofChange framesParsesSpec)

/-- ITS FALSE NEIGHBOUR: 'it returns false'. Refute it at one input. -/
def framesParsesWrong : ChangeSpec := { name := "framesParses", fn := fun _ => fun
  | [d] => { results := [.lit (.bool false)], args := [d] }
  | _ => none }
def FramesParsesWrongFalsely : Prop := framesParsesRow.holds Tryz.pinned (OpenSpec.ofChange framesParsesWrong)

/-- 'antiphonlaw24.FramesBent': WHATEVER THE INPUT: true; the input reads as it did. -/
def framesBentSpec : ChangeSpec := { name := "framesBent", fn := fun _ => fun
  | [d1, d2, d3, d4] => { results := [.lit (.bool true)], args := [d1, d2, d3, d4] }
  | _ => none }
def framesBentRow : OpenClaim := { program := "ytcfgnbbiljohjaagreatdoor", sum := "8b62aad5ecea249589d7dc6c1b247162309fd50ddd9cfe75fc2d252a782e212c", func := "antiphon/antiphonlaw24.FramesBent", spec := "framesBent", inPlace := ["internal/bytealg.IndexByteString", "internal/bytealg.IndexString"], unfollowed := true, recurses := true, named := ["unicode/utf8.first", "unicode/utf8.acceptRanges", "internal/bytealg.MaxLen"], apart := false, laid := [("unicode/utf8.acceptRanges", laid_unicode_utf8_acceptRanges), ("unicode/utf8.first", laid_unicode_utf8_first)] }
def FramesBentSaid : Prop := framesBentRow.holds Tryz.pinned (OpenSpec.ofChange framesBentSpec)

/-- ITS FALSE NEIGHBOUR: 'it returns false'. Refute it at one input. -/
def framesBentWrong : ChangeSpec := { name := "framesBent", fn := fun _ => fun
  | [d1, d2, d3, d4] => { results := [.lit (.bool false)], args := [d1, d2, d3, d4] }
  | _ => none }
def FramesBentWrongFalsely : Prop := framesBentRow.holds Tryz.pinned (OpenSpec.ofChange framesBentWrong)

/-- 'antiphonlaw24.FramesOf': WHATEVER THE INPUT: true; the input reads as it did. -/
def framesOfSpec : ChangeSpec := { name := "framesOf", fn := fun _ => fun
  | [d] => { results := [.lit (.bool true)], args := [d] }
  | _ => none }
def framesOfRow : OpenClaim := { program := "ytcfgnbbiljohjaagreatdoor", sum := "8b62aad5ecea249589d7dc6c1b247162309fd50ddd9cfe75fc2d252a782e212c", func := "antiphon/antiphonlaw24.FramesOf", spec := "framesOf", inPlace := ["internal/bytealg.IndexByteString", "internal/bytealg.IndexString"], unfollowed := true, recurses := true, named := ["unicode/utf8.first", "unicode/utf8.acceptRanges", "internal/bytealg.MaxLen"], apart := false, laid := [("unicode/utf8.acceptRanges", laid_unicode_utf8_acceptRanges), ("unicode/utf8.first", laid_unicode_utf8_first)] }
def FramesOfSaid : Prop := framesOfRow.holds Tryz.pinned (OpenSpec.ofChange framesOfSpec)

/-- ITS FALSE NEIGHBOUR: 'it returns false'. Refute it at one input. -/
def framesOfWrong : ChangeSpec := { name := "framesOf", fn := fun _ => fun
  | [d] => { results := [.lit (.bool false)], args := [d] }
  | _ => none }
def FramesOfWrongFalsely : Prop := framesOfRow.holds Tryz.pinned (OpenSpec.ofChange framesOfWrong)

/-- 'antiphonlaw24.FramesReads': WHATEVER THE INPUT: true; the input reads as it did. -/
def framesReadsSpec : ChangeSpec := { name := "framesReads", fn := fun _ => fun
  | [d1, d2] => { results := [.lit (.bool true)], args := [d1, d2] }
  | _ => none }
def framesReadsRow : OpenClaim := { program := "ytcfgnbbiljohjaagreatdoor", sum := "8b62aad5ecea249589d7dc6c1b247162309fd50ddd9cfe75fc2d252a782e212c", func := "antiphon/antiphonlaw24.FramesReads", spec := "framesReads", inPlace := ["internal/bytealg.IndexByteString", "internal/bytealg.IndexString"], unfollowed := true, recurses := true, named := ["unicode/utf8.first", "unicode/utf8.acceptRanges", "internal/bytealg.MaxLen"], apart := false, laid := [("unicode/utf8.acceptRanges", laid_unicode_utf8_acceptRanges), ("unicode/utf8.first", laid_unicode_utf8_first)] }
def FramesReadsSaid : Prop := framesReadsRow.holds Tryz.pinned (OpenSpec.ofChange framesReadsSpec)

/-- ITS FALSE NEIGHBOUR: 'it returns false'. Refute it at one input. -/
def framesReadsWrong : ChangeSpec := { name := "framesReads", fn := fun _ => fun
  | [d1, d2] => { results := [.lit (.bool false)], args := [d1, d2] }
  | _ => none }
def FramesReadsWrongFalsely : Prop := framesReadsRow.holds Tryz.pinned (OpenSpec.ofChange framesReadsWrong)

/-- 'antiphonlaw24.FramesBack': WHATEVER THE INPUT: true; the input reads as it did. -/
def framesBackSpec : ChangeSpec := { name := "framesBack", fn := fun _ => fun
  | [d1, d2] => { results := [.lit (.bool true)], args := [d1, d2] }
  | _ => none }
def framesBackRow : OpenClaim := { program := "ytcfgnbbiljohjaagreatdoor", sum := "8b62aad5ecea249589d7dc6c1b247162309fd50ddd9cfe75fc2d252a782e212c", func := "antiphon/antiphonlaw24.FramesBack", spec := "framesBack", inPlace := ["internal/bytealg.IndexByteString", "internal/bytealg.IndexString"], unfollowed := true, recurses := true, named := ["unicode/utf8.first", "unicode/utf8.acceptRanges", "internal/bytealg.MaxLen"], apart := false, laid := [("unicode/utf8.acceptRanges", laid_unicode_utf8_acceptRanges), ("unicode/utf8.first", laid_unicode_utf8_first)] }
def FramesBackSaid : Prop := framesBackRow.holds Tryz.pinned (OpenSpec.ofChange framesBackSpec)

/-- ITS FALSE NEIGHBOUR: 'it returns false'. Refute it at one input. -/
def framesBackWrong : ChangeSpec := { name := "framesBack", fn := fun _ => fun
  | [d1, d2] => { results := [.lit (.bool false)], args := [d1, d2] }
  | _ => none }
def FramesBackWrongFalsely : Prop := framesBackRow.holds Tryz.pinned (OpenSpec.ofChange framesBackWrong)

/- THE SECOND FORM. 'bulk': how many values and letters a reading holds, each counted each time it is reached (what is shared counts as often as it is met; a slice's spare places count too). A statement '..UptoSaid' is the law's where the arguments, and the package variables that the reading takes, are together of bulk at most 1048576: NARROWER than '..Said'. Prove '..Said' where nothing that the law and all that it calls make is longer than what came in: it says more and counts as full. Else prove '..UptoSaid'. A law counts once. -/
mutual
def uptoBulk {H : Type} : DataW H → Nat
  | .lit (.string bytes) => bytes.length + 1
  | .lit _ => 1
  | .nil => 1
  | .ptr d => uptoBulk d + 1
  | .slice elems spare => uptoBulkAll elems + uptoBulkAll spare + 1
  | .agg parts => uptoBulkAll parts + 1
  | .iface _ d => uptoBulk d + 1
  | .map entries => uptoBulkEntries entries + 1
  | .held _ => 1
def uptoBulkAll {H : Type} : List (DataW H) → Nat
  | [] => 0
  | d :: r => uptoBulk d + uptoBulkAll r
def uptoBulkEntries {H : Type} : List (Lit × DataW H) → Nat
  | [] => 0
  | x :: r => uptoBulkEntry x + uptoBulkEntries r
def uptoBulkEntry {H : Type} : Lit × DataW H → Nat
  | (.string bytes, d) => bytes.length + uptoBulk d + 1
  | (_, d) => uptoBulk d + 1
 end
def uptoSmall : (H : Type) → List (DataW H) → Bool := fun _ ds => decide (uptoBulkAll ds ≤ 1048576)
def OpenSpec.upto (s : _root_.Go.ChangeSpec) : _root_.Go.OpenSpec := { _root_.Go.OpenSpec.ofChange s with cond := some uptoSmall }

/-- 'antiphonlaw24.FramesRaws', WHERE WHAT IT READS IS OF BULK AT MOST 1048576: true; the input reads as it did. -/
def framesRawsUptoRow : OpenClaim := { program := "ytcfgnbbiljohjaagreatdoor", sum := "8b62aad5ecea249589d7dc6c1b247162309fd50ddd9cfe75fc2d252a782e212c", func := "antiphon/antiphonlaw24.FramesRaws", spec := "framesRaws", inPlace := ["internal/bytealg.IndexByteString", "internal/bytealg.IndexString"], unfollowed := true, recurses := true, named := ["unicode/utf8.first", "unicode/utf8.acceptRanges", "internal/bytealg.MaxLen"], apart := false, laid := [("unicode/utf8.acceptRanges", laid_unicode_utf8_acceptRanges), ("unicode/utf8.first", laid_unicode_utf8_first)], narrowed := true }
def FramesRawsUptoSaid : Prop := framesRawsUptoRow.holds Tryz.pinned (OpenSpec.upto framesRawsSpec)

/-- 'antiphonlaw24.FramesParses', WHERE WHAT IT READS IS OF BULK AT MOST 1048576: true; the input reads as it did. -/
def framesParsesUptoRow : OpenClaim := { program := "ytcfgnbbiljohjaagreatdoor", sum := "8b62aad5ecea249589d7dc6c1b247162309fd50ddd9cfe75fc2d252a782e212c", func := "antiphon/antiphonlaw24.FramesParses", spec := "framesParses", inPlace := ["internal/bytealg.IndexByteString", "internal/bytealg.IndexString"], unfollowed := true, recurses := true, named := ["unicode/utf8.first", "unicode/utf8.acceptRanges", "internal/bytealg.MaxLen"], apart := false, laid := [("unicode/utf8.acceptRanges", laid_unicode_utf8_acceptRanges), ("unicode/utf8.first", laid_unicode_utf8_first)], narrowed := true }
def FramesParsesUptoSaid : Prop := framesParsesUptoRow.holds Tryz.pinned (OpenSpec.upto framesParsesSpec)

/-- 'antiphonlaw24.FramesBent', WHERE WHAT IT READS IS OF BULK AT MOST 1048576: true; the input reads as it did. -/
def framesBentUptoRow : OpenClaim := { program := "ytcfgnbbiljohjaagreatdoor", sum := "8b62aad5ecea249589d7dc6c1b247162309fd50ddd9cfe75fc2d252a782e212c", func := "antiphon/antiphonlaw24.FramesBent", spec := "framesBent", inPlace := ["internal/bytealg.IndexByteString", "internal/bytealg.IndexString"], unfollowed := true, recurses := true, named := ["unicode/utf8.first", "unicode/utf8.acceptRanges", "internal/bytealg.MaxLen"], apart := false, laid := [("unicode/utf8.acceptRanges", laid_unicode_utf8_acceptRanges), ("unicode/utf8.first", laid_unicode_utf8_first)], narrowed := true }
def FramesBentUptoSaid : Prop := framesBentUptoRow.holds Tryz.pinned (OpenSpec.upto framesBentSpec)

/-- 'antiphonlaw24.FramesOf', WHERE WHAT IT READS IS OF BULK AT MOST 1048576: true; the input reads as it did. -/
def framesOfUptoRow : OpenClaim := { program := "ytcfgnbbiljohjaagreatdoor", sum := "8b62aad5ecea249589d7dc6c1b247162309fd50ddd9cfe75fc2d252a782e212c", func := "antiphon/antiphonlaw24.FramesOf", spec := "framesOf", inPlace := ["internal/bytealg.IndexByteString", "internal/bytealg.IndexString"], unfollowed := true, recurses := true, named := ["unicode/utf8.first", "unicode/utf8.acceptRanges", "internal/bytealg.MaxLen"], apart := false, laid := [("unicode/utf8.acceptRanges", laid_unicode_utf8_acceptRanges), ("unicode/utf8.first", laid_unicode_utf8_first)], narrowed := true }
def FramesOfUptoSaid : Prop := framesOfUptoRow.holds Tryz.pinned (OpenSpec.upto framesOfSpec)

/-- 'antiphonlaw24.FramesReads', WHERE WHAT IT READS IS OF BULK AT MOST 1048576: true; the input reads as it did. -/
def framesReadsUptoRow : OpenClaim := { program := "ytcfgnbbiljohjaagreatdoor", sum := "8b62aad5ecea249589d7dc6c1b247162309fd50ddd9cfe75fc2d252a782e212c", func := "antiphon/antiphonlaw24.FramesReads", spec := "framesReads", inPlace := ["internal/bytealg.IndexByteString", "internal/bytealg.IndexString"], unfollowed := true, recurses := true, named := ["unicode/utf8.first", "unicode/utf8.acceptRanges", "internal/bytealg.MaxLen"], apart := false, laid := [("unicode/utf8.acceptRanges", laid_unicode_utf8_acceptRanges), ("unicode/utf8.first", laid_unicode_utf8_first)], narrowed := true }
def FramesReadsUptoSaid : Prop := framesReadsUptoRow.holds Tryz.pinned (OpenSpec.upto framesReadsSpec)

/-- 'antiphonlaw24.FramesBack', WHERE WHAT IT READS IS OF BULK AT MOST 1048576: true; the input reads as it did. -/
def framesBackUptoRow : OpenClaim := { program := "ytcfgnbbiljohjaagreatdoor", sum := "8b62aad5ecea249589d7dc6c1b247162309fd50ddd9cfe75fc2d252a782e212c", func := "antiphon/antiphonlaw24.FramesBack", spec := "framesBack", inPlace := ["internal/bytealg.IndexByteString", "internal/bytealg.IndexString"], unfollowed := true, recurses := true, named := ["unicode/utf8.first", "unicode/utf8.acceptRanges", "internal/bytealg.MaxLen"], apart := false, laid := [("unicode/utf8.acceptRanges", laid_unicode_utf8_acceptRanges), ("unicode/utf8.first", laid_unicode_utf8_first)], narrowed := true }
def FramesBackUptoSaid : Prop := framesBackUptoRow.holds Tryz.pinned (OpenSpec.upto framesBackSpec)

end Rows
end Go.Proofs.YtcfgnbbiljohjaaGreatDoor
