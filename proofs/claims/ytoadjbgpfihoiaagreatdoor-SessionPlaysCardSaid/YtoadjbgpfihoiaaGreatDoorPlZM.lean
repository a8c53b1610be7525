/- Texts SvEq, one behind the other. Conditions: as each says. -/
import Derived.Test.YtoadjbgpfihoiaaGreatDoorPlZK
set_option linter.unusedVariables false
set_option linter.unusedSimpArgs false
set_option maxHeartbeats 8000000
set_option maxRecDepth 100000
namespace Go.Proofs.YtoadjbgpfihoiaaGreatDoor
open Go.RowKit
structure Sv where
 member : Int
 number : Int
 next : Int
 sent : Int
 acked : Int
 heard : Int
 live : Bool
 closed : Bool
 queued : Int
deriving DecidableEq
abbrev Sv.cells (z : Sv) : List Value := [.int .i64 z.member, .int .i64 z.number, .int .i64 z.next, .int .i64 z.sent, .int .i64 z.acked, .int .i64 z.heard, .bool z.live, .bool z.closed, .int .i64 z.queued]
def Sv.v (z : Sv) : Value := .agg #[.int .i64 z.member, .int .i64 z.number, .int .i64 z.next, .int .i64 z.sent, .int .i64 z.acked, .int .i64 z.heard, .bool z.live, .bool z.closed, .int .i64 z.queued]
theorem eqIn_sv (x y : Sv) (d : Nat) (W : World) : (Op.equalIn (d + 2) 68 x.v y.v).run Tryz.prog W = .ok (decide (x = y)) W := by
 unfold Sv.v; rw [run_equalIn_struct W (d + 1) 68 _ _ (by kernel_rfl) (by kernel_rfl)]; obtain ⟨f, hf⟩ : ∃ f : Sv → Array Value, f = fun z => #[Value.int .i64 z.member, .int .i64 z.number, .int .i64 z.next, .int .i64 z.sent, .int .i64 z.acked, .int .i64 z.heard, .bool z.live, .bool z.closed, .int .i64 z.queued] := ⟨_, rfl⟩
 have hx : ∀ z : Sv, #[Value.int .i64 z.member, .int .i64 z.number, .int .i64 z.next, .int .i64 z.sent, .int .i64 z.acked, .int .i64 z.heard, .bool z.live, .bool z.closed, .int .i64 z.queued] = f z := fun z => by rw [hf]
 have p0 : ∀ z : Sv, (part 3 (f z) 0).run Tryz.prog W = .ok (.int .i64 z.member) W := fun z => by rw [hf]; exact run_part_plain W (by kernel_rfl) rfl
 have p1 : ∀ z : Sv, (part 2 (f z) 1).run Tryz.prog W = .ok (.int .i64 z.number) W := fun z => by rw [hf]; exact run_part_plain W (by kernel_rfl) rfl
 have p2 : ∀ z : Sv, (part 2 (f z) 2).run Tryz.prog W = .ok (.int .i64 z.next) W := fun z => by rw [hf]; exact run_part_plain W (by kernel_rfl) rfl
 have p3 : ∀ z : Sv, (part 2 (f z) 3).run Tryz.prog W = .ok (.int .i64 z.sent) W := fun z => by rw [hf]; exact run_part_plain W (by kernel_rfl) rfl
 have p4 : ∀ z : Sv, (part 2 (f z) 4).run Tryz.prog W = .ok (.int .i64 z.acked) W := fun z => by rw [hf]; exact run_part_plain W (by kernel_rfl) rfl
 have p5 : ∀ z : Sv, (part 2 (f z) 5).run Tryz.prog W = .ok (.int .i64 z.heard) W := fun z => by rw [hf]; exact run_part_plain W (by kernel_rfl) rfl
 have p6 : ∀ z : Sv, (part 4 (f z) 6).run Tryz.prog W = .ok (.bool z.live) W := fun z => by rw [hf]; exact run_part_plain W (by kernel_rfl) rfl
 have p7 : ∀ z : Sv, (part 4 (f z) 7).run Tryz.prog W = .ok (.bool z.closed) W := fun z => by rw [hf]; exact run_part_plain W (by kernel_rfl) rfl
 have p8 : ∀ z : Sv, (part 3 (f z) 8).run Tryz.prog W = .ok (.int .i64 z.queued) W := fun z => by rw [hf]; exact run_part_plain W (by kernel_rfl) rfl
 rw [hx x, hx y]; clear hf hx; have q0 := run_equalIn_int W d 3 .i64 .i64 x.member y.member Tryz.underlying3; have q1 := run_equalIn_int W d 2 .i64 .i64 x.number y.number Tryz.underlying2; have q2 := run_equalIn_int W d 2 .i64 .i64 x.next y.next Tryz.underlying2; have q3 := run_equalIn_int W d 2 .i64 .i64 x.sent y.sent Tryz.underlying2; have q4 := run_equalIn_int W d 2 .i64 .i64 x.acked y.acked Tryz.underlying2; have q5 := run_equalIn_int W d 2 .i64 .i64 x.heard y.heard Tryz.underlying2; have q6 := run_equalIn_bool W d 4 x.live y.live Tryz.underlying4; have q7 := run_equalIn_bool W d 4 x.closed y.closed Tryz.underlying4; have q8 := run_equalIn_int W d 3 .i64 .i64 x.queued y.queued Tryz.underlying3; rw [int_eq] at q0 q1 q2 q3 q4 q5 q8; rw [boo_eq] at q6 q7
 have he : decide (x = y) = (decide (x.member = y.member) && (decide (x.number = y.number) && (decide (x.next = y.next) && (decide (x.sent = y.sent) && (decide (x.acked = y.acked) && (decide (x.heard = y.heard) && (decide (x.live = y.live) && (decide (x.closed = y.closed) && (decide (x.queued = y.queued)))))))))) := by
  obtain ⟨a, b, c, d, e, f, g, h, i⟩ := x; obtain ⟨a', b', c', d', e', f', g', h', i'⟩ := y; rw [Bool.eq_iff_iff]; simp
 rw [he]; simp only [Program.fieldsOf, Tryz.underlying68, Op.eqFields]; obtain ⟨g0, hg0⟩ : ∃ g : Sv → Value, g = fun z => Value.int .i64 z.member := ⟨_, rfl⟩
 have u0 : ∀ z : Sv, Value.int .i64 z.member = g0 z := fun z => by rw [hg0]
 simp only [u0] at p0; rw [u0 x, u0 y] at q0; clear u0 hg0; obtain ⟨g1, hg1⟩ : ∃ g : Sv → Value, g = fun z => Value.int .i64 z.number := ⟨_, rfl⟩
 have u1 : ∀ z : Sv, Value.int .i64 z.number = g1 z := fun z => by rw [hg1]
 simp only [u1] at p1; rw [u1 x, u1 y] at q1; clear u1 hg1; obtain ⟨g2, hg2⟩ : ∃ g : Sv → Value, g = fun z => Value.int .i64 z.next := ⟨_, rfl⟩
 have u2 : ∀ z : Sv, Value.int .i64 z.next = g2 z := fun z => by rw [hg2]
 simp only [u2] at p2; rw [u2 x, u2 y] at q2; clear u2 hg2; obtain ⟨g3, hg3⟩ : ∃ g : Sv → Value, g = fun z => Value.int .i64 z.sent := ⟨_, rfl⟩
 have u3 : ∀ z : Sv, Value.int .i64 z.sent = g3 z := fun z => by rw [hg3]
 simp only [u3] at p3; rw [u3 x, u3 y] at q3; clear u3 hg3; obtain ⟨g4, hg4⟩ : ∃ g : Sv → Value, g = fun z => Value.int .i64 z.acked := ⟨_, rfl⟩
 have u4 : ∀ z : Sv, Value.int .i64 z.acked = g4 z := fun z => by rw [hg4]
 simp only [u4] at p4; rw [u4 x, u4 y] at q4; clear u4 hg4; obtain ⟨g5, hg5⟩ : ∃ g : Sv → Value, g = fun z => Value.int .i64 z.heard := ⟨_, rfl⟩
 have u5 : ∀ z : Sv, Value.int .i64 z.heard = g5 z := fun z => by rw [hg5]
 simp only [u5] at p5; rw [u5 x, u5 y] at q5; clear u5 hg5; obtain ⟨g6, hg6⟩ : ∃ g : Sv → Value, g = fun z => Value.bool z.live := ⟨_, rfl⟩
 have u6 : ∀ z : Sv, Value.bool z.live = g6 z := fun z => by rw [hg6]
 simp only [u6] at p6; rw [u6 x, u6 y] at q6; clear u6 hg6; obtain ⟨g7, hg7⟩ : ∃ g : Sv → Value, g = fun z => Value.bool z.closed := ⟨_, rfl⟩
 have u7 : ∀ z : Sv, Value.bool z.closed = g7 z := fun z => by rw [hg7]
 simp only [u7] at p7; rw [u7 x, u7 y] at q7; clear u7 hg7; obtain ⟨g8, hg8⟩ : ∃ g : Sv → Value, g = fun z => Value.int .i64 z.queued := ⟨_, rfl⟩
 have u8 : ∀ z : Sv, Value.int .i64 z.queued = g8 z := fun z => by rw [hg8]
 simp only [u8] at p8; rw [u8 x, u8 y] at q8; clear u8 hg8; obtain ⟨b0, hb0⟩ : ∃ b, decide (x.member = y.member) = b := ⟨_, rfl⟩; rw [hb0] at q0 ⊢; clear hb0; obtain ⟨b1, hb1⟩ : ∃ b, decide (x.number = y.number) = b := ⟨_, rfl⟩; rw [hb1] at q1 ⊢; clear hb1; obtain ⟨b2, hb2⟩ : ∃ b, decide (x.next = y.next) = b := ⟨_, rfl⟩; rw [hb2] at q2 ⊢; clear hb2; obtain ⟨b3, hb3⟩ : ∃ b, decide (x.sent = y.sent) = b := ⟨_, rfl⟩; rw [hb3] at q3 ⊢; clear hb3; obtain ⟨b4, hb4⟩ : ∃ b, decide (x.acked = y.acked) = b := ⟨_, rfl⟩; rw [hb4] at q4 ⊢; clear hb4; obtain ⟨b5, hb5⟩ : ∃ b, decide (x.heard = y.heard) = b := ⟨_, rfl⟩; rw [hb5] at q5 ⊢; clear hb5; obtain ⟨b6, hb6⟩ : ∃ b, decide (x.live = y.live) = b := ⟨_, rfl⟩; rw [hb6] at q6 ⊢; clear hb6; obtain ⟨b7, hb7⟩ : ∃ b, decide (x.closed = y.closed) = b := ⟨_, rfl⟩; rw [hb7] at q7 ⊢; clear hb7; obtain ⟨b8, hb8⟩ : ∃ b, decide (x.queued = y.queued) = b := ⟨_, rfl⟩; rw [hb8] at q8 ⊢; clear hb8; cases b0
 case false => simp [p0, q0, Result.andThen]
 cases b1
 case false => simp [p0, q0, p1, q1, Result.andThen]
 cases b2
 case false => simp [p0, q0, p1, q1, p2, q2, Result.andThen]
 cases b3
 case false => simp [p0, q0, p1, q1, p2, q2, p3, q3, Result.andThen]
 cases b4
 case false => simp [p0, q0, p1, q1, p2, q2, p3, q3, p4, q4, Result.andThen]
 cases b5
 case false => simp [p0, q0, p1, q1, p2, q2, p3, q3, p4, q4, p5, q5, Result.andThen]
 cases b6
 case false => simp [p0, q0, p1, q1, p2, q2, p3, q3, p4, q4, p5, q5, p6, q6, Result.andThen]
 cases b7
 case false => simp [p0, q0, p1, q1, p2, q2, p3, q3, p4, q4, p5, q5, p6, q6, p7, q7, Result.andThen]
 cases b8
 case false => simp [p0, q0, p1, q1, p2, q2, p3, q3, p4, q4, p5, q5, p6, q6, p7, q7, p8, q8, Result.andThen]
 simp [p0, q0, p1, q1, p2, q2, p3, q3, p4, q4, p5, q5, p6, q6, p7, q7, p8, q8, Result.andThen]
theorem eq_sv (x y : Sv) (W : World) : (binOp .eql 68 x.v y.v).run Tryz.prog W = .ok (.bool (decide (x = y))) W := eql_of (eqIn_sv x y 9998 W)
theorem ne_sv (x y : Sv) (W : World) : (binOp .neq 68 x.v y.v).run Tryz.prog W = .ok (.bool (!decide (x = y))) W := neq_of (eqIn_sv x y 9998 W)
def Ss.sv (s : Ss) : Sv := ⟨s.member, s.number, s.next, s.sent, s.acked, s.heard, s.live, s.closed, 0⟩
end Go.Proofs.YtoadjbgpfihoiaaGreatDoor
