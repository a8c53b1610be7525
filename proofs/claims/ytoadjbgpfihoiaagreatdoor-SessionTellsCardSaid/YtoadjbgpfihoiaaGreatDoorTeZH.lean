/- Texts SvEq, one behind the other. Conditions: as each says. -/
import Derived.Test.YtoadjbgpfihoiaaGreatDoorTeZF
set_option linter.unusedVariables false
set_option linter.unusedSimpArgs false
set_option maxHeartbeats 8000000
set_option maxRecDepth 100000
namespace Go.Proofs.YtoadjbgpfihoiaaGreatDoor
open Go.RowKit
structure Sv where
 member : Int
 number : Int
 next : Int
 sent : Int
 acked : Int
 heard : Int
 live : Bool
 closed : Bool
 queued : Int
deriving DecidableEq
abbrev Sv.cells (z : Sv) : List Value := [.int .i64 z.member, .int .i64 z.number, .int .i64 z.next, .int .i64 z.sent, .int .i64 z.acked, .int .i64 z.heard, .bool z.live, .bool z.closed, .int .i64 z.queued]
def Sv.v (z : Sv) : Value := .agg #[.int .i64 z.member, .int .i64 z.number, .int .i64 z.next, .int .i64 z.sent, .int .i64 z.acked, .int .i64 z.heard, .bool z.live, .bool z.closed, .int .i64 z.queued]
def Ss.sv (s : Ss) : Sv := ⟨s.member, s.number, s.next, s.sent, s.acked, s.heard, s.live, s.closed, 0⟩
end Go.Proofs.YtoadjbgpfihoiaaGreatDoor
