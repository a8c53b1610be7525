/- must: it gives up with an error unless all is so. Condition: the truths lie in a block known whole. -/
import Derived.Test.YthhdgjofagdjeaaDoorJC
import Derived.WalkLawsBesides
set_option linter.unusedVariables false
set_option linter.unusedSimpArgs false
set_option maxHeartbeats 400000
set_option maxRecDepth 10000
namespace Go.Proofs.YthhdgjofagdjeaaDoor
open Go.RowKit

theorem index_1 (w : World) (b : Nat) (x y : Bool) (hb : Box w b 4 [.bool x]) : Calls Tryd.prog 80 #[.slice (some ⟨b, 0, none⟩) 1 1, .bool false] w fun e w' => e = .returned (.int .i64 (if x then -1 else 0)) ∧ w' = w := by
  have HB := Lib.hid hb
  clear hb
  cases x <;> cases y
  all_goals
    go_enter Tryd.func80, Tryd.ntmps80
    obtain ⟨cHB, zHB⟩ := HB.out.reads
    have lHB := HB.out.lt
    go_wp2_with fail
    refine wp_loop_rounds 4 ?_
    repeat (rw [rounds_succ]; go_wp2_with fail)
    go_ret
    exact ⟨rfl, rfl⟩
theorem contains_1 (w : World) (b : Nat) (x y : Bool) (hb : Box w b 4 [.bool x]) : Calls Tryd.prog 66 #[.slice (some ⟨b, 0, none⟩) 1 1, .bool false] w fun e w' => e = .returned (.bool (!(x && true))) ∧ w' = w := by
  have HB := Lib.hid hb
  clear hb
  go_enter Tryd.func66, Tryd.ntmps66
  go_wp2_with fail
  refine (index_1 w b x y HB.out).mono ?_
  rintro e w' ⟨rfl, rfl⟩
  cases x <;> cases y
  all_goals
    go_wp2_with fail
    go_ret
    exact ⟨rfl, rfl⟩
theorem must_ok_1 (w : World) (b : Nat) (n : Int) (x y : Bool) (hb : Box w b 4 [.bool x]) (h : (x && true) = true) : Calls Tryd.prog 45 #[.int .i64 n, .slice (some ⟨b, 0, none⟩) 1 1] w fun e w' => e = .returned (.tuple #[]) ∧ w' = w := by
  have HB := Lib.hid hb
  have HH := Lib.hid h
  clear hb h
  go_enter Tryd.func45, Tryd.ntmps45
  go_wp2_with fail
  refine (contains_1 w b x y HB.out).mono ?_
  rintro e w' ⟨rfl, rfl⟩
  rw [HH.out]
  go_wp2_with fail
  go_end0
  exact ⟨rfl, rfl⟩
theorem must_bad_1 (w : World) (b : Nat) (n : Int) (x y : Bool) (hb : Box w b 4 [.bool x]) (h : (x && true) = false) : Calls Tryd.prog 45 #[.int .i64 n, .slice (some ⟨b, 0, none⟩) 1 1] w fun e w' => e = .panicked [{ v := .iface 22 (.int .i64 n), recovered := false }] ∧ w' = w := by
  have HB := Lib.hid hb
  have HH := Lib.hid h
  clear hb h
  go_enter Tryd.func45, Tryd.ntmps45
  go_wp2_with fail
  refine (contains_1 w b x y HB.out).mono ?_
  rintro e w' ⟨rfl, rfl⟩
  rw [HH.out]
  go_wp2_with fail
  exact ⟨rfl, rfl, rfl⟩
theorem index_2 (w : World) (b : Nat) (x y : Bool) (hb : Box w b 4 [.bool x, .bool y]) : Calls Tryd.prog 80 #[.slice (some ⟨b, 0, none⟩) 2 2, .bool false] w fun e w' => e = .returned (.int .i64 (if x then (if y then -1 else 1) else 0)) ∧ w' = w := by
  have HB := Lib.hid hb
  clear hb
  cases x <;> cases y
  all_goals
    go_enter Tryd.func80, Tryd.ntmps80
    obtain ⟨cHB, zHB⟩ := HB.out.reads
    have lHB := HB.out.lt
    go_wp2_with fail
    refine wp_loop_rounds 4 ?_
    repeat (rw [rounds_succ]; go_wp2_with fail)
    go_ret
    exact ⟨rfl, rfl⟩
theorem contains_2 (w : World) (b : Nat) (x y : Bool) (hb : Box w b 4 [.bool x, .bool y]) : Calls Tryd.prog 66 #[.slice (some ⟨b, 0, none⟩) 2 2, .bool false] w fun e w' => e = .returned (.bool (!(x && y))) ∧ w' = w := by
  have HB := Lib.hid hb
  clear hb
  go_enter Tryd.func66, Tryd.ntmps66
  go_wp2_with fail
  refine (index_2 w b x y HB.out).mono ?_
  rintro e w' ⟨rfl, rfl⟩
  cases x <;> cases y
  all_goals
    go_wp2_with fail
    go_ret
    exact ⟨rfl, rfl⟩
theorem must_ok_2 (w : World) (b : Nat) (n : Int) (x y : Bool) (hb : Box w b 4 [.bool x, .bool y]) (h : (x && y) = true) : Calls Tryd.prog 45 #[.int .i64 n, .slice (some ⟨b, 0, none⟩) 2 2] w fun e w' => e = .returned (.tuple #[]) ∧ w' = w := by
  have HB := Lib.hid hb
  have HH := Lib.hid h
  clear hb h
  go_enter Tryd.func45, Tryd.ntmps45
  go_wp2_with fail
  refine (contains_2 w b x y HB.out).mono ?_
  rintro e w' ⟨rfl, rfl⟩
  rw [HH.out]
  go_wp2_with fail
  go_end0
  exact ⟨rfl, rfl⟩
theorem must_bad_2 (w : World) (b : Nat) (n : Int) (x y : Bool) (hb : Box w b 4 [.bool x, .bool y]) (h : (x && y) = false) : Calls Tryd.prog 45 #[.int .i64 n, .slice (some ⟨b, 0, none⟩) 2 2] w fun e w' => e = .panicked [{ v := .iface 22 (.int .i64 n), recovered := false }] ∧ w' = w := by
  have HB := Lib.hid hb
  have HH := Lib.hid h
  clear hb h
  go_enter Tryd.func45, Tryd.ntmps45
  go_wp2_with fail
  refine (contains_2 w b x y HB.out).mono ?_
  rintro e w' ⟨rfl, rfl⟩
  rw [HH.out]
  go_wp2_with fail
  exact ⟨rfl, rfl, rfl⟩
end Go.Proofs.YthhdgjofagdjeaaDoor
