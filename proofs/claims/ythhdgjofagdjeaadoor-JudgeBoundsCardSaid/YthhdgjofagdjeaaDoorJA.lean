/- The bound, and what it asks of a choir: slots.Check and what it stands on, ref12.Right, both Bounds, num. No condition. -/
import Derived.Test.YthhdgjofagdjeaaDoorRows
import Derived.Test.YthhdgjofagdjeaaDoorBase
set_option linter.unusedVariables false
set_option linter.unusedSimpArgs false
set_option maxHeartbeats 400000
set_option maxRecDepth 10000
namespace Go.Proofs.YthhdgjofagdjeaaDoor
open Go.RowKit

/-- may a choir be? -/
def RightC (c : Int) : Prop := c = 3 ∨ c = 5 ∨ c = 7 ∨ c = 9
instance (c : Int) : Decidable (RightC c) := by unfold RightC; infer_instance

theorem in_any (w : World) (c : Int) : Calls Tryd.prog 58 #[.int .i64 c, .int .i64 3, .int .i64 10] w fun e w' => e = .returned (.bool (decide (3 ≤ c) && decide (c < 10))) ∧ w' = w := by
  by_cases h1 : 3 ≤ c
  · go_enter Tryd.func58, Tryd.ntmps58
    go_wp2_with fail
    go_ret
    simp [h1]
  · go_enter Tryd.func58, Tryd.ntmps58
    go_wp2_with fail
    go_ret
    simp
    omega

theorem all_two (w : World) (b : Nat) (x y : Bool) (hb : Box w b 4 [.bool x, .bool y]) : Calls Tryd.prog 57 #[.slice (some ⟨b, 0, none⟩) 2 2] w fun e w' => e = .returned (.bool (x && y)) ∧ w' = w := by
  have HB := Lib.hid hb
  clear hb
  cases x
  · go_enter Tryd.func57, Tryd.ntmps57
    obtain ⟨cHB, zHB⟩ := HB.out.reads
    have lHB := HB.out.lt
    go_wp2_with fail
    refine wp_loop_rounds 3 ?_
    rw [rounds_succ]
    go_wp2_with fail
    go_ret
    exact ⟨rfl, rfl⟩
  · cases y
    · go_enter Tryd.func57, Tryd.ntmps57
      obtain ⟨cHB, zHB⟩ := HB.out.reads
      have lHB := HB.out.lt
      go_wp2_with fail
      refine wp_loop_rounds 4 ?_
      rw [rounds_succ]
      go_wp2_with fail
      rw [rounds_succ]
      go_wp2_with fail
      go_ret
      exact ⟨rfl, rfl⟩
    · go_enter Tryd.func57, Tryd.ntmps57
      obtain ⟨cHB, zHB⟩ := HB.out.reads
      have lHB := HB.out.lt
      go_wp2_with fail
      refine wp_loop_rounds 4 ?_
      rw [rounds_succ]
      go_wp2_with fail
      rw [rounds_succ]
      go_wp2_with fail
      rw [rounds_succ]
      go_wp2_with fail
      go_ret
      exact ⟨rfl, rfl⟩

theorem right_eq (c : Int) : ((decide (3 ≤ c) && decide (c < 10)) && (c.tmod 2 == 1)) = decide (RightC c) := by
  by_cases h : 3 ≤ c ∧ c < 10
  · obtain ⟨h1, h2⟩ := h
    obtain rfl | rfl | rfl | rfl | rfl | rfl | rfl : c = 3 ∨ c = 4 ∨ c = 5 ∨ c = 6 ∨ c = 7 ∨ c = 8 ∨ c = 9 := by omega
    all_goals decide
  · have h3 : ¬ RightC c := by unfold RightC; omega
    rw [decide_eq_false h3]
    by_cases h1 : 3 ≤ c
    · rw [decide_eq_false (p := c < 10) (by omega), Bool.and_false, Bool.false_and]
    · rw [decide_eq_false h1, Bool.false_and, Bool.false_and]
theorem rightS_any (w : World) (c : Int) : Calls Tryd.prog 39 #[.int .i64 c] w fun e w' => e = .returned (.bool (decide (RightC c))) ∧ Ext w w' := by
  go_enter Tryd.func39, Tryd.ntmps39
  go_wp2_with fail
  refine (in_any w c).mono ?_
  rintro e w' ⟨rfl, rfl⟩
  go_wp2_with fail
  have bx0 := (Box.new w' 4 [.bool (decide (3 ≤ c) && decide (c < 10)), .bool (c.tmod 2 == 1)])
  have ex : Ext w' (w'.alloc (Obj.cells #[.bool (decide (3 ≤ c) && decide (c < 10)), .bool (c.tmod 2 == 1)] 4)) := ((Keeps.refl NoB w').alloc _)
  have sx : (w'.alloc (Obj.cells #[.bool (decide (3 ≤ c) && decide (c < 10)), .bool (c.tmod 2 == 1)] 4)).heap.size = w'.heap.size + 1 := by simp
  generalize (w'.alloc (Obj.cells #[.bool (decide (3 ≤ c) && decide (c < 10)), .bool (c.tmod 2 == 1)] 4)) = w0 at bx0 ex sx ⊢
  have Sx := Lib.hid sx
  clear sx
  have HE := Lib.hid ex
  refine (all_two w0 _ _ _ bx0).mono ?_
  rintro e w'' ⟨rfl, rfl⟩
  clear ex bx0
  rw [right_eq]
  go_wp2_with fail
  go_ret
  exact ⟨rfl, HE.out⟩
theorem check_any (w : World) (c : Int) : Calls Tryd.prog 20 #[.int .i64 c] w fun e w' => e = .returned (.int .i64 (if RightC c then 0 else 2)) ∧ Ext w w' := by
  by_cases h : RightC c
  · have hd : decide (RightC c) = true := decide_eq_true h
    rw [if_pos h]
    go_enter Tryd.func20, Tryd.ntmps20
    go_wp2_with fail
    refine (rightS_any w c).mono ?_
    rintro e w' ⟨rfl, hE⟩
    have HE := Lib.hid hE
    clear hE
    rw [hd]
    go_wp2_with fail
    go_ret
    exact ⟨rfl, HE.out⟩
  · have hd : decide (RightC c) = false := decide_eq_false h
    rw [if_neg h]
    go_enter Tryd.func20, Tryd.ntmps20
    go_wp2_with fail
    refine (rightS_any w c).mono ?_
    rintro e w' ⟨rfl, hE⟩
    have HE := Lib.hid hE
    clear hE
    rw [hd]
    go_wp2_with fail
    go_ret
    exact ⟨rfl, HE.out⟩

theorem ref12_any (w : World) (c : Int) : Calls Tryd.prog 21 #[.int .i64 c] w fun e w' => e = .returned (.bool (decide (RightC c))) ∧ w' = w := by
  by_cases h3 : c = 3
  · subst h3
    go_enter Tryd.func21, Tryd.ntmps21
    go_wp2_with fail
    go_ret
    exact ⟨rfl, rfl⟩
  by_cases h5 : c = 5
  · subst h5
    go_enter Tryd.func21, Tryd.ntmps21
    go_wp2_with fail
    go_ret
    exact ⟨rfl, rfl⟩
  by_cases h7 : c = 7
  · subst h7
    go_enter Tryd.func21, Tryd.ntmps21
    go_wp2_with fail
    go_ret
    exact ⟨rfl, rfl⟩
  · go_enter Tryd.func21, Tryd.ntmps21
    go_wp2_with fail
    go_ret
    by_cases h9 : c = 9
    · subst h9; exact ⟨rfl, rfl⟩
    · simp [RightC, h3, h5, h7, h9]

/-- may a bound be asked for? -/
def BoundC (c wait many : Int) : Prop := RightC c ∧ 1 ≤ wait ∧ wait ≤ 1000000 ∧ 0 ≤ many ∧ many ≤ 1000000
instance (c wait many : Int) : Decidable (BoundC c wait many) := by unfold BoundC; infer_instance
def boundR (c wait many : Int) : Value := if BoundC c wait many then .tuple #[.int .i64 (100 * wait + 32 * (many + 1)), .int .i64 0] else .tuple #[.int .i64 0, .int .i64 2]
theorem bound_any (w : World) (c wait many : Int) : Calls Tryd.prog 6 #[.int .i64 c, .int .i64 wait, .int .i64 many] w fun e w' => e = .returned (boundR c wait many) ∧ Ext w w' := by
  by_cases h : RightC c
  · by_cases h1 : BoundC c wait many
    · rw [boundR, if_pos h1]
      obtain ⟨_, g1, g2, g3, g4⟩ := h1
      have e1 : ¬ wait < 1 := by omega
      have e2 : ¬ 1000000 < wait := by omega
      have e3 : ¬ many < 0 := by omega
      have e4 : ¬ 1000000 < many := by omega
      go_enter Tryd.func6, Tryd.ntmps6
      go_wp2_with fail
      refine (check_any w c).mono ?_
      rintro e w' ⟨rfl, hE⟩
      have HE := Lib.hid hE
      clear hE
      rw [if_pos h]
      go_wp2_with fail
      go_ret2
      exact ⟨rfl, HE.out⟩
    · have e0 : wait < 1 ∨ (¬ wait < 1 ∧ 1000000 < wait) ∨ (¬ wait < 1 ∧ ¬ 1000000 < wait ∧ many < 0) ∨ (¬ wait < 1 ∧ ¬ 1000000 < wait ∧ ¬ many < 0 ∧ 1000000 < many) := by
        have h2 : ¬ (1 ≤ wait ∧ wait ≤ 1000000 ∧ 0 ≤ many ∧ many ≤ 1000000) := fun h3 => h1 ⟨h, h3⟩
        omega
      rw [boundR, if_neg h1]
      clear h1
      rcases e0 with e1 | ⟨e1, e2⟩ | ⟨e1, e2, e3⟩ | ⟨e1, e2, e3, e4⟩
      all_goals
        go_enter Tryd.func6, Tryd.ntmps6
        go_wp2_with fail
        refine (check_any w c).mono ?_
        rintro e w' ⟨rfl, hE⟩
        have HE := Lib.hid hE
        clear hE
        rw [if_pos h]
        go_wp2_with fail
        go_ret2
        exact ⟨rfl, HE.out⟩
  · have h1 : ¬ BoundC c wait many := fun h' => h h'.1
    rw [boundR, if_neg h1]
    clear h1
    go_enter Tryd.func6, Tryd.ntmps6
    go_wp2_with fail
    refine (check_any w c).mono ?_
    rintro e w' ⟨rfl, hE⟩
    have HE := Lib.hid hE
    clear hE
    rw [if_neg h]
    go_wp2_with fail
    go_ret2
    exact ⟨rfl, HE.out⟩
theorem rbound_any (w : World) (c wait many : Int) : Calls Tryd.prog 7 #[.int .i64 c, .int .i64 wait, .int .i64 many] w fun e w' => e = .returned (boundR c wait many) ∧ Ext w w' := by
  by_cases h : RightC c
  · by_cases h1 : BoundC c wait many
    · rw [boundR, if_pos h1]
      obtain ⟨_, g1, g2, g3, g4⟩ := h1
      have e1 : ¬ wait < 1 := by omega
      have e2 : ¬ 1000000 < wait := by omega
      have e3 : ¬ many < 0 := by omega
      have e4 : ¬ 1000000 < many := by omega
      go_enter Tryd.func7, Tryd.ntmps7
      go_wp2_with fail
      refine (ref12_any w c).mono ?_
      rintro e w' ⟨rfl, rfl⟩
      have HE := Lib.hid (Keeps.refl NoB w')
      rw [decide_eq_true h]
      go_wp2_with fail
      go_ret2
      exact ⟨rfl, HE.out⟩
    · have e0 : wait < 1 ∨ (¬ wait < 1 ∧ 1000000 < wait) ∨ (¬ wait < 1 ∧ ¬ 1000000 < wait ∧ many < 0) ∨ (¬ wait < 1 ∧ ¬ 1000000 < wait ∧ ¬ many < 0 ∧ 1000000 < many) := by
        have h2 : ¬ (1 ≤ wait ∧ wait ≤ 1000000 ∧ 0 ≤ many ∧ many ≤ 1000000) := fun h3 => h1 ⟨h, h3⟩
        omega
      rw [boundR, if_neg h1]
      clear h1
      rcases e0 with e1 | ⟨e1, e2⟩ | ⟨e1, e2, e3⟩ | ⟨e1, e2, e3, e4⟩
      all_goals
        go_enter Tryd.func7, Tryd.ntmps7
        go_wp2_with fail
        refine (ref12_any w c).mono ?_
        rintro e w' ⟨rfl, rfl⟩
        have HE := Lib.hid (Keeps.refl NoB w')
        rw [decide_eq_true h]
        go_wp2_with fail
        go_ret2
        exact ⟨rfl, HE.out⟩
  · have h1 : ¬ BoundC c wait many := fun h' => h h'.1
    rw [boundR, if_neg h1]
    clear h1
    go_enter Tryd.func7, Tryd.ntmps7
    go_wp2_with fail
    refine (ref12_any w c).mono ?_
    rintro e w' ⟨rfl, rfl⟩
    have HE := Lib.hid (Keeps.refl NoB w')
    rw [decide_eq_false h]
    go_wp2_with fail
    go_ret2
    exact ⟨rfl, HE.out⟩
theorem num_any (w : World) (e : Int) : Calls Tryd.prog 8 #[.int .i64 e] w fun r w' => r = .returned (.int .i64 e) ∧ w' = w := by
  go_enter Tryd.func8, Tryd.ntmps8
  go_wp2_with fail
  go_ret
  exact ⟨rfl, rfl⟩
end Go.Proofs.YthhdgjofagdjeaaDoor
