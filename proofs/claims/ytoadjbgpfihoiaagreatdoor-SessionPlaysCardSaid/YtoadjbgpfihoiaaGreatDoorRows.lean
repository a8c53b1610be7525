/-
  NARROWER THAN 'FOR EVERY INPUT', by the rows' own cells (each row's printed sentence says how): ClientFull: laid · ClientCopies: laid · SessionRaws: laid · SessionTells: laid · SessionPlays: laid · SessionCopies: laid.
  DERIVED. THE GIVEN ROWS OF THIS SEAT. 6 by the template 'for every input the law returns true; each argument reads behind the call as it read before'; 0 by the template 'total and deterministic' (their statements: YtoadjbgpfihoiaaGreatDoorTotals.lean).
  GIVEN WITH THE SEED: the statements are not yours to turn. If you find one false, say at which input.
  Laid BY PROGRAM, IN A SANDBOX (cutbox-rows.mjs): the forced cells as the released guide's own fill.sh prints them over the translation 89b2420190fd2d4a… (all of the seat's roots in one cut). By AI agents, Wed Nov 11 2026. No macro, syntax, notation, axiom, sorry.
-/
import Derived.Test.YtoadjbgpfihoiaaGreatDoorChecked
import GoSem.PinnedTables
import GoSem.Claim
import GoSem.ClaimJoined
import GoSem.ClaimMapViews
import Derived.JoinedTies
import Derived.KernelRfl
namespace Go.Proofs.YtoadjbgpfihoiaaGreatDoor
/- THE CELL 'sum', in the pinned program and in every row, IS THE sha256 OF THE DUMP (.gsa) THAT YtoadjbgpfihoiaaGreatDoorProg.lean LOADS. Nothing in Lean hashes anything: it is a label: what it is worth is what the hold of that sum in a sandbox is worth. -/
noncomputable def Tryz.pinned : Pinned := { name := "ytoadjbgpfihoiaagreatdoor", sum := "89b2420190fd2d4af47acb8d1b2d07ac5af3b4f2d899b00b24aec178ae7919cb", checked := Tryz.checked }
namespace Rows
def none {H : Type} : Left H := { results := [], args := [] }

/- WHAT THE LISTED PACKAGE-LEVEL VARIABLES READ AS WHEN THE CALL BEGINS. Each datum BY PROGRAM (the guide's laid-datum.mjs) off the statement by which the dump's own 'gosem.cut.vars' lays the variable. In a bare row this is a premise. The card (YtoadjbgpfihoiaaGreatDoorCards.lean) ties it to the program's text. -/
def laid_unicode_utf8_acceptRanges {H : Type} : DataW H := .agg [.agg [.lit (.int .u8 128), .lit (.int .u8 191)], .agg [.lit (.int .u8 160), .lit (.int .u8 191)], .agg [.lit (.int .u8 128), .lit (.int .u8 159)], .agg [.lit (.int .u8 144), .lit (.int .u8 191)], .agg [.lit (.int .u8 128), .lit (.int .u8 143)], .agg [.lit (.int .u8 0), .lit (.int .u8 0)], .agg [.lit (.int .u8 0), .lit (.int .u8 0)], .agg [.lit (.int .u8 0), .lit (.int .u8 0)], .agg [.lit (.int .u8 0), .lit (.int .u8 0)], .agg [.lit (.int .u8 0), .lit (.int .u8 0)], .agg [.lit (.int .u8 0), .lit (.int .u8 0)], .agg [.lit (.int .u8 0), .lit (.int .u8 0)], .agg [.lit (.int .u8 0), .lit (.int .u8 0)], .agg [.lit (.int .u8 0), .lit (.int .u8 0)], .agg [.lit (.int .u8 0), .lit (.int .u8 0)], .agg [.lit (.int .u8 0), .lit (.int .u8 0)]]
/-- One of Go's own tables, pinned by name: the form's constant. -/
def laid_unicode_utf8_first : DataW Unit := Go.Pinned.utf8First

/-- 'antiphonlaw28.ClientFull': WHATEVER THE INPUT: true; the input reads as it did. -/
def clientFullSpec : ChangeSpec := { name := "clientFull", fn := fun _ => fun
  | [d] => { results := [.lit (.bool true)], args := [d] }
  | _ => none }
def clientFullRow : OpenClaim := { program := "ytoadjbgpfihoiaagreatdoor", sum := "89b2420190fd2d4af47acb8d1b2d07ac5af3b4f2d899b00b24aec178ae7919cb", func := "antiphon/antiphonlaw28.ClientFull", spec := "clientFull", inPlace := ["internal/bytealg.IndexByteString", "internal/bytealg.IndexString"], unfollowed := true, recurses := true, named := ["unicode/utf8.first", "unicode/utf8.acceptRanges", "internal/bytealg.MaxLen"], apart := false, laid := [("unicode/utf8.acceptRanges", laid_unicode_utf8_acceptRanges), ("unicode/utf8.first", laid_unicode_utf8_first)] }
def ClientFullSaid : Prop := clientFullRow.holds Tryz.pinned (OpenSpec.ofChange clientFullSpec)

/-- ITS FALSE NEIGHBOUR: 'it returns false'. Refute it at one input. -/
def clientFullWrong : ChangeSpec := { name := "clientFull", fn := fun _ => fun
  | [d] => { results := [.lit (.bool false)], args := [d] }
  | _ => none }
def ClientFullWrongFalsely : Prop := clientFullRow.holds Tryz.pinned (OpenSpec.ofChange clientFullWrong)

/-- 'antiphonlaw28.ClientCopies': WHATEVER THE INPUT: true; the input reads as it did. -/
def clientCopiesSpec : ChangeSpec := { name := "clientCopies", fn := fun _ => fun
  | [d1, d2, d3] => { results := [.lit (.bool true)], args := [d1, d2, d3] }
  | _ => none }
def clientCopiesRow : OpenClaim := { program := "ytoadjbgpfihoiaagreatdoor", sum := "89b2420190fd2d4af47acb8d1b2d07ac5af3b4f2d899b00b24aec178ae7919cb", func := "antiphon/antiphonlaw28.ClientCopies", spec := "clientCopies", inPlace := ["internal/bytealg.IndexByteString", "internal/bytealg.IndexString"], unfollowed := true, recurses := true, named := ["unicode/utf8.first", "unicode/utf8.acceptRanges", "internal/bytealg.MaxLen"], apart := false, laid := [("unicode/utf8.acceptRanges", laid_unicode_utf8_acceptRanges), ("unicode/utf8.first", laid_unicode_utf8_first)] }
def ClientCopiesSaid : Prop := clientCopiesRow.holds Tryz.pinned (OpenSpec.ofChange clientCopiesSpec)

/-- ITS FALSE NEIGHBOUR: 'it returns false'. Refute it at one input. -/
def clientCopiesWrong : ChangeSpec := { name := "clientCopies", fn := fun _ => fun
  | [d1, d2, d3] => { results := [.lit (.bool false)], args := [d1, d2, d3] }
  | _ => none }
def ClientCopiesWrongFalsely : Prop := clientCopiesRow.holds Tryz.pinned (OpenSpec.ofChange clientCopiesWrong)

/-- 'antiphonlaw26.SessionRaws': WHATEVER THE INPUT: true; the input reads as it did. -/
def sessionRawsSpec : ChangeSpec := { name := "sessionRaws", fn := fun _ => fun
  | [d1, d2, d3, d4, d5] => { results := [.lit (.bool true)], args := [d1, d2, d3, d4, d5] }
  | _ => none }
def sessionRawsRow : OpenClaim := { program := "ytoadjbgpfihoiaagreatdoor", sum := "89b2420190fd2d4af47acb8d1b2d07ac5af3b4f2d899b00b24aec178ae7919cb", func := "antiphon/antiphonlaw26.SessionRaws", spec := "sessionRaws", inPlace := ["internal/bytealg.IndexByteString", "internal/bytealg.IndexString"], unfollowed := true, recurses := true, named := ["unicode/utf8.first", "unicode/utf8.acceptRanges", "internal/bytealg.MaxLen"], apart := false, laid := [("unicode/utf8.acceptRanges", laid_unicode_utf8_acceptRanges), ("unicode/utf8.first", laid_unicode_utf8_first)] }
def SessionRawsSaid : Prop := sessionRawsRow.holds Tryz.pinned (OpenSpec.ofChange sessionRawsSpec)

/-- ITS FALSE NEIGHBOUR: 'it returns false'. Refute it at one input. -/
def sessionRawsWrong : ChangeSpec := { name := "sessionRaws", fn := fun _ => fun
  | [d1, d2, d3, d4, d5] => { results := [.lit (.bool false)], args := [d1, d2, d3, d4, d5] }
  | _ => none }
def SessionRawsWrongFalsely : Prop := sessionRawsRow.holds Tryz.pinned (OpenSpec.ofChange sessionRawsWrong)

/-- 'antiphonlaw26.SessionTells': WHATEVER THE INPUT: true; the input reads as it did. -/
def sessionTellsSpec : ChangeSpec := { name := "sessionTells", fn := fun _ => fun
  | [d1, d2, d3] => { results := [.lit (.bool true)], args := [d1, d2, d3] }
  | _ => none }
def sessionTellsRow : OpenClaim := { program := "ytoadjbgpfihoiaagreatdoor", sum := "89b2420190fd2d4af47acb8d1b2d07ac5af3b4f2d899b00b24aec178ae7919cb", func := "antiphon/antiphonlaw26.SessionTells", spec := "sessionTells", inPlace := ["internal/bytealg.IndexByteString", "internal/bytealg.IndexString"], unfollowed := true, recurses := true, named := ["unicode/utf8.first", "unicode/utf8.acceptRanges", "internal/bytealg.MaxLen"], apart := false, laid := [("unicode/utf8.acceptRanges", laid_unicode_utf8_acceptRanges), ("unicode/utf8.first", laid_unicode_utf8_first)] }
def SessionTellsSaid : Prop := sessionTellsRow.holds Tryz.pinned (OpenSpec.ofChange sessionTellsSpec)

/-- ITS FALSE NEIGHBOUR: 'it returns false'. Refute it at one input. -/
def sessionTellsWrong : ChangeSpec := { name := "sessionTells", fn := fun _ => fun
  | [d1, d2, d3] => { results := [.lit (.bool false)], args := [d1, d2, d3] }
  | _ => none }
def SessionTellsWrongFalsely : Prop := sessionTellsRow.holds Tryz.pinned (OpenSpec.ofChange sessionTellsWrong)

/-- 'antiphonlaw26.SessionPlays': WHATEVER THE INPUT: true; the input reads as it did. -/
def sessionPlaysSpec : ChangeSpec := { name := "sessionPlays", fn := fun _ => fun
  | [d1, d2, d3, d4, d5, d6, d7] => { results := [.lit (.bool true)], args := [d1, d2, d3, d4, d5, d6, d7] }
  | _ => none }
def sessionPlaysRow : OpenClaim := { program := "ytoadjbgpfihoiaagreatdoor", sum := "89b2420190fd2d4af47acb8d1b2d07ac5af3b4f2d899b00b24aec178ae7919cb", func := "antiphon/antiphonlaw26.SessionPlays", spec := "sessionPlays", inPlace := ["internal/bytealg.IndexByteString", "internal/bytealg.IndexString"], unfollowed := true, recurses := true, named := ["unicode/utf8.first", "unicode/utf8.acceptRanges", "internal/bytealg.MaxLen"], apart := false, laid := [("unicode/utf8.acceptRanges", laid_unicode_utf8_acceptRanges), ("unicode/utf8.first", laid_unicode_utf8_first)] }
def SessionPlaysSaid : Prop := sessionPlaysRow.holds Tryz.pinned (OpenSpec.ofChange sessionPlaysSpec)

/-- ITS FALSE NEIGHBOUR: 'it returns false'. Refute it at one input. -/
def sessionPlaysWrong : ChangeSpec := { name := "sessionPlays", fn := fun _ => fun
  | [d1, d2, d3, d4, d5, d6, d7] => { results := [.lit (.bool false)], args := [d1, d2, d3, d4, d5, d6, d7] }
  | _ => none }
def SessionPlaysWrongFalsely : Prop := sessionPlaysRow.holds Tryz.pinned (OpenSpec.ofChange sessionPlaysWrong)

/-- 'antiphonlaw26.SessionCopies': WHATEVER THE INPUT: true; the input reads as it did. -/
def sessionCopiesSpec : ChangeSpec := { name := "sessionCopies", fn := fun _ => fun
  | [d1, d2, d3] => { results := [.lit (.bool true)], args := [d1, d2, d3] }
  | _ => none }
def sessionCopiesRow : OpenClaim := { program := "ytoadjbgpfihoiaagreatdoor", sum := "89b2420190fd2d4af47acb8d1b2d07ac5af3b4f2d899b00b24aec178ae7919cb", func := "antiphon/antiphonlaw26.SessionCopies", spec := "sessionCopies", inPlace := ["internal/bytealg.IndexByteString", "internal/bytealg.IndexString"], unfollowed := true, recurses := true, named := ["unicode/utf8.first", "unicode/utf8.acceptRanges", "internal/bytealg.MaxLen"], apart := false, laid := [("unicode/utf8.acceptRanges", laid_unicode_utf8_acceptRanges), ("unicode/utf8.first", laid_unicode_utf8_first)] }
def SessionCopiesSaid : Prop := sessionCopiesRow.holds Tryz.pinned (OpenSpec.ofChange sessionCopiesSpec)

/-- ITS FALSE NEIGHBOUR: 'it returns false'. Refute it at one input. -/
def sessionCopiesWrong : ChangeSpec := { name := "sessionCopies", fn := fun _ => fun
  | [d1, d2, d3] => { results := [.lit (.bool false)], args := [d1, d2, d3] }
  | _ => none }
def SessionCopiesWrongFalsely : Prop := sessionCopiesRow.holds Tryz.pinned (OpenSpec.ofChange sessionCopiesWrong)

/- THE SECOND FORM. 'bulk': how many values and letters a reading holds, each counted each time it is reached (what is shared counts as often as it is met; a slice's spare places count too). A statement '..UptoSaid' is the law's where the arguments, and the package variables that the reading takes, are together of bulk at most 1048576: NARROWER than '..Said'. Prove '..Said' where nothing that the law and all that it calls make is longer than what came in: it says more and counts as full. Else prove '..UptoSaid'. A law counts once. -/
mutual
def uptoBulk {H : Type} : DataW H → Nat
  | .lit (.string bytes) => bytes.length + 1
  | .lit _ => 1
  | .nil => 1
  | .ptr d => uptoBulk d + 1
  | .slice elems spare => uptoBulkAll elems + uptoBulkAll spare + 1
  | .agg parts => uptoBulkAll parts + 1
  | .iface _ d => uptoBulk d + 1
  | .map entries => uptoBulkEntries entries + 1
  | .held _ => 1
def uptoBulkAll {H : Type} : List (DataW H) → Nat
  | [] => 0
  | d :: r => uptoBulk d + uptoBulkAll r
def uptoBulkEntries {H : Type} : List (Lit × DataW H) → Nat
  | [] => 0
  | x :: r => uptoBulkEntry x + uptoBulkEntries r
def uptoBulkEntry {H : Type} : Lit × DataW H → Nat
  | (.string bytes, d) => bytes.length + uptoBulk d + 1
  | (_, d) => uptoBulk d + 1
 end
def uptoSmall : (H : Type) → List (DataW H) → Bool := fun _ ds => decide (uptoBulkAll ds ≤ 1048576)
def OpenSpec.upto (s : _root_.Go.ChangeSpec) : _root_.Go.OpenSpec := { _root_.Go.OpenSpec.ofChange s with cond := some uptoSmall }

/-- 'antiphonlaw28.ClientFull', WHERE WHAT IT READS IS OF BULK AT MOST 1048576: true; the input reads as it did. -/
def clientFullUptoRow : OpenClaim := { program := "ytoadjbgpfihoiaagreatdoor", sum := "89b2420190fd2d4af47acb8d1b2d07ac5af3b4f2d899b00b24aec178ae7919cb", func := "antiphon/antiphonlaw28.ClientFull", spec := "clientFull", inPlace := ["internal/bytealg.IndexByteString", "internal/bytealg.IndexString"], unfollowed := true, recurses := true, named := ["unicode/utf8.first", "unicode/utf8.acceptRanges", "internal/bytealg.MaxLen"], apart := false, laid := [("unicode/utf8.acceptRanges", laid_unicode_utf8_acceptRanges), ("unicode/utf8.first", laid_unicode_utf8_first)], narrowed := true }
def ClientFullUptoSaid : Prop := clientFullUptoRow.holds Tryz.pinned (OpenSpec.upto clientFullSpec)

/-- 'antiphonlaw28.ClientCopies', WHERE WHAT IT READS IS OF BULK AT MOST 1048576: true; the input reads as it did. -/
def clientCopiesUptoRow : OpenClaim := { program := "ytoadjbgpfihoiaagreatdoor", sum := "89b2420190fd2d4af47acb8d1b2d07ac5af3b4f2d899b00b24aec178ae7919cb", func := "antiphon/antiphonlaw28.ClientCopies", spec := "clientCopies", inPlace := ["internal/bytealg.IndexByteString", "internal/bytealg.IndexString"], unfollowed := true, recurses := true, named := ["unicode/utf8.first", "unicode/utf8.acceptRanges", "internal/bytealg.MaxLen"], apart := false, laid := [("unicode/utf8.acceptRanges", laid_unicode_utf8_acceptRanges), ("unicode/utf8.first", laid_unicode_utf8_first)], narrowed := true }
def ClientCopiesUptoSaid : Prop := clientCopiesUptoRow.holds Tryz.pinned (OpenSpec.upto clientCopiesSpec)

/-- 'antiphonlaw26.SessionRaws', WHERE WHAT IT READS IS OF BULK AT MOST 1048576: true; the input reads as it did. -/
def sessionRawsUptoRow : OpenClaim := { program := "ytoadjbgpfihoiaagreatdoor", sum := "89b2420190fd2d4af47acb8d1b2d07ac5af3b4f2d899b00b24aec178ae7919cb", func := "antiphon/antiphonlaw26.SessionRaws", spec := "sessionRaws", inPlace := ["internal/bytealg.IndexByteString", "internal/bytealg.IndexString"], unfollowed := true, recurses := true, named := ["unicode/utf8.first", "unicode/utf8.acceptRanges", "internal/bytealg.MaxLen"], apart := false, laid := [("unicode/utf8.acceptRanges", laid_unicode_utf8_acceptRanges), ("unicode/utf8.first", laid_unicode_utf8_first)], narrowed := true }
def SessionRawsUptoSaid : Prop := sessionRawsUptoRow.holds Tryz.pinned (OpenSpec.upto sessionRawsSpec)

/-- 'antiphonlaw26.SessionTells', WHERE WHAT IT READS IS OF BULK AT MOST 1048576: true; the input reads as it did. -/
def sessionTellsUptoRow : OpenClaim := { program := "ytoadjbgpfihoiaagreatdoor", sum := "89b2420190fd2d4af47acb8d1b2d07ac5af3b4f2d899b00b24aec178ae7919cb", func := "antiphon/antiphonlaw26.SessionTells", spec := "sessionTells", inPlace := ["internal/bytealg.IndexByteString", "internal/bytealg.IndexString"], unfollowed := true, recurses := true, named := ["unicode/utf8.first", "unicode/utf8.acceptRanges", "internal/bytealg.MaxLen"], apart := false, laid := [("unicode/utf8.acceptRanges", laid_unicode_utf8_acceptRanges), ("unicode/utf8.first", laid_unicode_utf8_first)], narrowed := true }
def SessionTellsUptoSaid : Prop := sessionTellsUptoRow.holds Tryz.pinned (OpenSpec.upto sessionTellsSpec)

/-- 'antiphonlaw26.SessionPlays', WHERE WHAT IT READS IS OF BULK AT MOST 1048576: true; the input reads as it did. -/
def sessionPlaysUptoRow : OpenClaim := { program := "ytoadjbgpfihoiaagreatdoor", sum := "89b2420190fd2d4af47acb8d1b2d07ac5af3b4f2d899b00b24aec178ae7919cb", func := "antiphon/antiphonlaw26.SessionPlays", spec := "sessionPlays", inPlace := ["internal/bytealg.IndexByteString", "internal/bytealg.IndexString"], unfollowed := true, recurses := true, named := ["unicode/utf8.first", "unicode/utf8.acceptRanges", "internal/bytealg.MaxLen"], apart := false, laid := [("unicode/utf8.acceptRanges", laid_unicode_utf8_acceptRanges), ("unicode/utf8.first", laid_unicode_utf8_first)], narrowed := true }
def SessionPlaysUptoSaid : Prop := sessionPlaysUptoRow.holds Tryz.pinned (OpenSpec.upto sessionPlaysSpec)

/-- 'antiphonlaw26.SessionCopies', WHERE WHAT IT READS IS OF BULK AT MOST 1048576: true; the input reads as it did. -/
def sessionCopiesUptoRow : OpenClaim := { program := "ytoadjbgpfihoiaagreatdoor", sum := "89b2420190fd2d4af47acb8d1b2d07ac5af3b4f2d899b00b24aec178ae7919cb", func := "antiphon/antiphonlaw26.SessionCopies", spec := "sessionCopies", inPlace := ["internal/bytealg.IndexByteString", "internal/bytealg.IndexString"], unfollowed := true, recurses := true, named := ["unicode/utf8.first", "unicode/utf8.acceptRanges", "internal/bytealg.MaxLen"], apart := false, laid := [("unicode/utf8.acceptRanges", laid_unicode_utf8_acceptRanges), ("unicode/utf8.first", laid_unicode_utf8_first)], narrowed := true }
def SessionCopiesUptoSaid : Prop := sessionCopiesUptoRow.holds Tryz.pinned (OpenSpec.upto sessionCopiesSpec)

end Rows
end Go.Proofs.YtoadjbgpfihoiaaGreatDoor
