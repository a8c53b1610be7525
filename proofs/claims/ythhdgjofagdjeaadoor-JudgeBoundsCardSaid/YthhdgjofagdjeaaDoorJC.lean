/- May an entry be? acceptor.Right and what it stands on. Condition: of an entry that says something, that text.Check answers as the document's. -/
import Derived.Test.YthhdgjofagdjeaaDoorMapI
import Derived.Test.YthhdgjofagdjeaaDoorBs
import Derived.Test.YthhdgjofagdjeaaDoorSigns
import Derived.Test.YthhdgjofagdjeaaDoorFork
import Derived.Test.YthhdgjofagdjeaaDoorPlanC
set_option linter.unusedVariables false
set_option linter.unusedSimpArgs false
set_option maxHeartbeats 400000
set_option maxRecDepth 10000
namespace Go.Proofs.YthhdgjofagdjeaaDoor
open Go.RowKit

structure En where
  kind : Int
  member : Int
  number : Int
  text : List UInt8
deriving DecidableEq
def En.cells (e : En) : List Value := [.int .i64 e.kind, .int .i64 e.member, .int .i64 e.number, .string (bs e.text)]
def En.v (e : En) : Value := .agg #[.int .i64 e.kind, .int .i64 e.member, .int .i64 e.number, .string (bs e.text)]
def memB (m : Int) : Bool := decide (0 ≤ m) && decide (m < 16)
def aloneB (e : En) : Bool := decide (e = ⟨e.kind, e.member, 0, []⟩)
theorem bs_inj {l l' : List UInt8} (h : bs l = bs l') : l = l' := by
  have := congrArg (fun s : ByteArray => s.data.toList) h
  simpa [bs_data] using this
/-- an entry with nothing but kind and member, and how else: what a comparison asks in turn -/
theorem alone_cases (e : En) : (e.number = 0 ∧ (bs e.text).toList = [] ∧ aloneB e = true) ∨ (e.number = 0 ∧ ¬ (bs e.text).toList = [] ∧ aloneB e = false) ∨ (¬ e.number = 0 ∧ aloneB e = false) := by
  obtain ⟨k, m, n, t⟩ := e
  rw [bs_toList]
  unfold aloneB
  by_cases hn : n = 0
  · by_cases ht : t = []
    · exact .inl ⟨hn, ht, by subst hn ht; simp⟩
    · exact .inr (.inl ⟨hn, ht, by simp [ht]⟩)
  · exact .inr (.inr ⟨hn, by simp [hn]⟩)

theorem acc_all2 (w : World) (b : Nat) (x y : Bool) (hb : Box w b 4 [.bool x, .bool y]) : Calls Tryd.prog 62 #[.slice (some ⟨b, 0, none⟩) 2 2] w fun e w' => e = .returned (.bool (x && y)) ∧ w' = w := by
  have HB := Lib.hid hb
  clear hb
  cases x
  · go_enter Tryd.func62, Tryd.ntmps62
    obtain ⟨cHB, zHB⟩ := HB.out.reads
    have lHB := HB.out.lt
    go_wp2_with fail
    refine wp_loop_rounds 3 ?_
    rw [rounds_succ]
    go_wp2_with fail
    go_ret
    exact ⟨rfl, rfl⟩
  · cases y
    · go_enter Tryd.func62, Tryd.ntmps62
      obtain ⟨cHB, zHB⟩ := HB.out.reads
      have lHB := HB.out.lt
      go_wp2_with fail
      refine wp_loop_rounds 4 ?_
      rw [rounds_succ]
      go_wp2_with fail
      rw [rounds_succ]
      go_wp2_with fail
      go_ret
      exact ⟨rfl, rfl⟩
    · go_enter Tryd.func62, Tryd.ntmps62
      obtain ⟨cHB, zHB⟩ := HB.out.reads
      have lHB := HB.out.lt
      go_wp2_with fail
      refine wp_loop_rounds 4 ?_
      rw [rounds_succ]
      go_wp2_with fail
      rw [rounds_succ]
      go_wp2_with fail
      rw [rounds_succ]
      go_wp2_with fail
      go_ret
      exact ⟨rfl, rfl⟩

theorem right1_any (w : World) (k : Nat) (m : Bool) (e : En) (hk : Box w k 4 [.bool m]) :
    Calls Tryd.prog 61 #[e.v, .pointer (some ⟨k, 0, none⟩)] w fun r w' => r = .returned (.bool (m && aloneB e)) ∧ Ext w w' := by
  have HB := Lib.hid hk
  clear hk
  unfold En.v
  rcases alone_cases e with ⟨h1, h2, h3⟩ | ⟨h1, h2, h3⟩ | ⟨h1, h3⟩
  · rw [h3]
    clear h3
    have HH := Lib.hid (And.intro h1 h2)
    clear h1 h2
    go_enter Tryd.func61, Tryd.ntmps61
    obtain ⟨cHB, zHB⟩ := HB.out.reads
    have lHB := HB.out.lt
    go_wp2_with fail
    have bx0 := (Box.new w 35 [.int .i64 e.kind, .int .i64 e.member, .int .i64 e.number, .string (bs e.text)])
    have ex : Ext w (w.alloc (Obj.cells #[.int .i64 e.kind, .int .i64 e.member, .int .i64 e.number, .string (bs e.text)] 35)) := ((Keeps.refl NoB w).alloc _)
    have sx : (w.alloc (Obj.cells #[.int .i64 e.kind, .int .i64 e.member, .int .i64 e.number, .string (bs e.text)] 35)).heap.size = w.heap.size + 1 := by simp
    generalize (w.alloc (Obj.cells #[.int .i64 e.kind, .int .i64 e.member, .int .i64 e.number, .string (bs e.text)] 35)) = w0 at bx0 ex sx ⊢
    have Sx := Lib.hid sx
    clear sx
    have BX := Lib.hid bx0
    clear cHB zHB lHB
    replace HB := Lib.hid (HB.out.ext ex)
    have HE := Lib.hid ex
    clear bx0 ex
    obtain ⟨cHB, zHB⟩ := HB.out.reads
    have lHB := HB.out.lt
    obtain ⟨cBX, zBX⟩ := BX.out.reads
    have lBX := BX.out.lt
    obtain ⟨h1, h2⟩ := HH.out
    have hE0 : Keeps NoB w0 w0.drew := (Keeps.refl _ _).drew
    refine wp_region_plan [(3, 0), (3, 1), (0, 2), (3, 3), (0, 4), (3, 5), (0, 6), (0, 7)] [] [8, 9, 10] [8, 9, 10] (ClsE w0) (by kernel_rfl) (by kernel_rfl) (by kernel_rfl) rfl rfl (ClsE.of hE0) (fun _ _ _ d _ h => by cases d <;> exact h) ?_; simp only [planL, List.getElem?_toArray, List.getElem?_cons_succ, List.getElem?_cons_zero]
    refine plan_exact rfl (fun K hK => quiet_runX (v := ?_) ?_ (hK _ ?_)); rotate_left; (go_simp <;> with_reducible rfl); clear hK K; simp only [Act.put, List.setIfInBounds_toArray, List.set_cons_zero, List.set_cons_succ]
    refine plan_exact rfl (fun K hK => quiet_runX (v := ?_) ?_ (hK _ ?_)); rotate_left; (go_simp <;> with_reducible rfl); clear hK K; simp only [Act.put, List.setIfInBounds_toArray, List.set_cons_zero, List.set_cons_succ]
    refine plan_pure rfl (fun K hK => quiet_run (v := ?_) (fun W _ => ?_) (hK _ ?_)); rotate_left; (go_simp <;> with_reducible rfl); clear hK K; simp only [Act.put, List.setIfInBounds_toArray, List.set_cons_zero, List.set_cons_succ]
    refine plan_exact rfl (fun K hK => quiet_runX (v := ?_) ?_ (hK _ ?_)); rotate_left; (go_simp <;> with_reducible rfl); clear hK K; simp only [Act.put, List.setIfInBounds_toArray, List.set_cons_zero, List.set_cons_succ]
    refine plan_pure rfl (fun K hK => quiet_run (v := ?_) (fun W _ => ?_) (hK _ ?_)); rotate_left; (go_simp <;> with_reducible rfl); clear hK K; simp only [Act.put, List.setIfInBounds_toArray, List.set_cons_zero, List.set_cons_succ]
    refine plan_exact rfl (fun K hK => quiet_runX (v := ?_) ?_ (hK _ ?_)); rotate_left; (go_simp <;> with_reducible rfl); clear hK K; simp only [Act.put, List.setIfInBounds_toArray, List.set_cons_zero, List.set_cons_succ]
    refine plan_pure rfl (fun K hK => quiet_run (v := ?_) (fun W _ => ?_) (hK _ ?_)); rotate_left; (go_simp <;> with_reducible rfl); clear hK K; simp only [Act.put, List.setIfInBounds_toArray, List.set_cons_zero, List.set_cons_succ]
    refine plan_pure rfl (fun K hK => quiet_run (v := ?_) (fun W _ => ?_) (hK _ ?_)); rotate_left; (go_simp <;> with_reducible rfl); clear hK K; simp only [Act.put, List.setIfInBounds_toArray, List.set_cons_zero, List.set_cons_succ]
    refine plan_nil ?_; simp only [tailL, List.filterMap_cons, List.filterMap_nil, List.getElem?_toArray, List.getElem?_cons_succ, List.getElem?_cons_zero]; change wpList _ _ _ (_ :: _ :: _ :: []) _ _
    clear cHB zHB lHB cBX zBX lBX
    clear h1 h2
    go_wp2_with fail
    have by0 := (Box.new w0 4 [.bool m, .bool true])
    have ey : Ext w0 (w0.alloc (Obj.cells #[.bool m, .bool true] 4)) := ((Keeps.refl NoB w0).alloc _)
    have sy : (w0.alloc (Obj.cells #[.bool m, .bool true] 4)).heap.size = w0.heap.size + 1 := by simp
    generalize (w0.alloc (Obj.cells #[.bool m, .bool true] 4)) = w1 at by0 ey sy ⊢
    have Sy := Lib.hid sy
    clear sy
    have HE1 := Lib.hid ((HE.out.ext ey).drew)
    refine (acc_all2 w1.drew _ m true by0.drew).mono ?_
    rintro e' w2 ⟨rfl, rfl⟩
    clear ey by0 hE0
    go_wp2_with fail
    go_ret
    exact ⟨by simp, HE1.out⟩
  · rw [h3]
    clear h3
    have HH := Lib.hid (And.intro h1 h2)
    clear h1 h2
    go_enter Tryd.func61, Tryd.ntmps61
    obtain ⟨cHB, zHB⟩ := HB.out.reads
    have lHB := HB.out.lt
    go_wp2_with fail
    have bx0 := (Box.new w 35 [.int .i64 e.kind, .int .i64 e.member, .int .i64 e.number, .string (bs e.text)])
    have ex : Ext w (w.alloc (Obj.cells #[.int .i64 e.kind, .int .i64 e.member, .int .i64 e.number, .string (bs e.text)] 35)) := ((Keeps.refl NoB w).alloc _)
    have sx : (w.alloc (Obj.cells #[.int .i64 e.kind, .int .i64 e.member, .int .i64 e.number, .string (bs e.text)] 35)).heap.size = w.heap.size + 1 := by simp
    generalize (w.alloc (Obj.cells #[.int .i64 e.kind, .int .i64 e.member, .int .i64 e.number, .string (bs e.text)] 35)) = w0 at bx0 ex sx ⊢
    have Sx := Lib.hid sx
    clear sx
    have BX := Lib.hid bx0
    clear cHB zHB lHB
    replace HB := Lib.hid (HB.out.ext ex)
    have HE := Lib.hid ex
    clear bx0 ex
    obtain ⟨cHB, zHB⟩ := HB.out.reads
    have lHB := HB.out.lt
    obtain ⟨cBX, zBX⟩ := BX.out.reads
    have lBX := BX.out.lt
    obtain ⟨h1, h2⟩ := HH.out
    have hE0 : Keeps NoB w0 w0.drew := (Keeps.refl _ _).drew
    refine wp_region_plan [(3, 0), (3, 1), (0, 2), (3, 3), (0, 4), (3, 5), (0, 6), (0, 7)] [] [8, 9, 10] [8, 9, 10] (ClsE w0) (by kernel_rfl) (by kernel_rfl) (by kernel_rfl) rfl rfl (ClsE.of hE0) (fun _ _ _ d _ h => by cases d <;> exact h) ?_; simp only [planL, List.getElem?_toArray, List.getElem?_cons_succ, List.getElem?_cons_zero]
    refine plan_exact rfl (fun K hK => quiet_runX (v := ?_) ?_ (hK _ ?_)); rotate_left; (go_simp <;> with_reducible rfl); clear hK K; simp only [Act.put, List.setIfInBounds_toArray, List.set_cons_zero, List.set_cons_succ]
    refine plan_exact rfl (fun K hK => quiet_runX (v := ?_) ?_ (hK _ ?_)); rotate_left; (go_simp <;> with_reducible rfl); clear hK K; simp only [Act.put, List.setIfInBounds_toArray, List.set_cons_zero, List.set_cons_succ]
    refine plan_pure rfl (fun K hK => quiet_run (v := ?_) (fun W _ => ?_) (hK _ ?_)); rotate_left; (go_simp <;> with_reducible rfl); clear hK K; simp only [Act.put, List.setIfInBounds_toArray, List.set_cons_zero, List.set_cons_succ]
    refine plan_exact rfl (fun K hK => quiet_runX (v := ?_) ?_ (hK _ ?_)); rotate_left; (go_simp <;> with_reducible rfl); clear hK K; simp only [Act.put, List.setIfInBounds_toArray, List.set_cons_zero, List.set_cons_succ]
    refine plan_pure rfl (fun K hK => quiet_run (v := ?_) (fun W _ => ?_) (hK _ ?_)); rotate_left; (go_simp <;> with_reducible rfl); clear hK K; simp only [Act.put, List.setIfInBounds_toArray, List.set_cons_zero, List.set_cons_succ]
    refine plan_exact rfl (fun K hK => quiet_runX (v := ?_) ?_ (hK _ ?_)); rotate_left; (go_simp <;> with_reducible rfl); clear hK K; simp only [Act.put, List.setIfInBounds_toArray, List.set_cons_zero, List.set_cons_succ]
    refine plan_pure rfl (fun K hK => quiet_run (v := ?_) (fun W _ => ?_) (hK _ ?_)); rotate_left; (go_simp <;> with_reducible rfl); clear hK K; simp only [Act.put, List.setIfInBounds_toArray, List.set_cons_zero, List.set_cons_succ]
    refine plan_pure rfl (fun K hK => quiet_run (v := ?_) (fun W _ => ?_) (hK _ ?_)); rotate_left; (go_simp <;> with_reducible rfl); clear hK K; simp only [Act.put, List.setIfInBounds_toArray, List.set_cons_zero, List.set_cons_succ]
    refine plan_nil ?_; simp only [tailL, List.filterMap_cons, List.filterMap_nil, List.getElem?_toArray, List.getElem?_cons_succ, List.getElem?_cons_zero]; change wpList _ _ _ (_ :: _ :: _ :: []) _ _
    clear cHB zHB lHB cBX zBX lBX
    clear h1 h2
    go_wp2_with fail
    have by0 := (Box.new w0 4 [.bool m, .bool false])
    have ey : Ext w0 (w0.alloc (Obj.cells #[.bool m, .bool false] 4)) := ((Keeps.refl NoB w0).alloc _)
    have sy : (w0.alloc (Obj.cells #[.bool m, .bool false] 4)).heap.size = w0.heap.size + 1 := by simp
    generalize (w0.alloc (Obj.cells #[.bool m, .bool false] 4)) = w1 at by0 ey sy ⊢
    have Sy := Lib.hid sy
    clear sy
    have HE1 := Lib.hid ((HE.out.ext ey).drew)
    refine (acc_all2 w1.drew _ m false by0.drew).mono ?_
    rintro e' w2 ⟨rfl, rfl⟩
    clear ey by0 hE0
    go_wp2_with fail
    go_ret
    exact ⟨by simp, HE1.out⟩
  · rw [h3]
    clear h3
    have HH := Lib.hid (And.intro h1 trivial)
    clear h1
    go_enter Tryd.func61, Tryd.ntmps61
    obtain ⟨cHB, zHB⟩ := HB.out.reads
    have lHB := HB.out.lt
    go_wp2_with fail
    have bx0 := (Box.new w 35 [.int .i64 e.kind, .int .i64 e.member, .int .i64 e.number, .string (bs e.text)])
    have ex : Ext w (w.alloc (Obj.cells #[.int .i64 e.kind, .int .i64 e.member, .int .i64 e.number, .string (bs e.text)] 35)) := ((Keeps.refl NoB w).alloc _)
    have sx : (w.alloc (Obj.cells #[.int .i64 e.kind, .int .i64 e.member, .int .i64 e.number, .string (bs e.text)] 35)).heap.size = w.heap.size + 1 := by simp
    generalize (w.alloc (Obj.cells #[.int .i64 e.kind, .int .i64 e.member, .int .i64 e.number, .string (bs e.text)] 35)) = w0 at bx0 ex sx ⊢
    have Sx := Lib.hid sx
    clear sx
    have BX := Lib.hid bx0
    clear cHB zHB lHB
    replace HB := Lib.hid (HB.out.ext ex)
    have HE := Lib.hid ex
    clear bx0 ex
    obtain ⟨cHB, zHB⟩ := HB.out.reads
    have lHB := HB.out.lt
    obtain ⟨cBX, zBX⟩ := BX.out.reads
    have lBX := BX.out.lt
    obtain ⟨h1, -⟩ := HH.out
    have hE0 : Keeps NoB w0 w0.drew := (Keeps.refl _ _).drew
    refine wp_region_plan [(3, 0), (3, 1), (0, 2), (3, 3), (0, 4), (3, 5), (0, 6), (0, 7)] [] [8, 9, 10] [8, 9, 10] (ClsE w0) (by kernel_rfl) (by kernel_rfl) (by kernel_rfl) rfl rfl (ClsE.of hE0) (fun _ _ _ d _ h => by cases d <;> exact h) ?_; simp only [planL, List.getElem?_toArray, List.getElem?_cons_succ, List.getElem?_cons_zero]
    refine plan_exact rfl (fun K hK => quiet_runX (v := ?_) ?_ (hK _ ?_)); rotate_left; (go_simp <;> with_reducible rfl); clear hK K; simp only [Act.put, List.setIfInBounds_toArray, List.set_cons_zero, List.set_cons_succ]
    refine plan_exact rfl (fun K hK => quiet_runX (v := ?_) ?_ (hK _ ?_)); rotate_left; (go_simp <;> with_reducible rfl); clear hK K; simp only [Act.put, List.setIfInBounds_toArray, List.set_cons_zero, List.set_cons_succ]
    refine plan_pure rfl (fun K hK => quiet_run (v := ?_) (fun W _ => ?_) (hK _ ?_)); rotate_left; (go_simp <;> with_reducible rfl); clear hK K; simp only [Act.put, List.setIfInBounds_toArray, List.set_cons_zero, List.set_cons_succ]
    refine plan_exact rfl (fun K hK => quiet_runX (v := ?_) ?_ (hK _ ?_)); rotate_left; (go_simp <;> with_reducible rfl); clear hK K; simp only [Act.put, List.setIfInBounds_toArray, List.set_cons_zero, List.set_cons_succ]
    refine plan_pure rfl (fun K hK => quiet_run (v := ?_) (fun W _ => ?_) (hK _ ?_)); rotate_left; (go_simp <;> with_reducible rfl); clear hK K; simp only [Act.put, List.setIfInBounds_toArray, List.set_cons_zero, List.set_cons_succ]
    refine plan_exact rfl (fun K hK => quiet_runX (v := ?_) ?_ (hK _ ?_)); rotate_left; (go_simp <;> with_reducible rfl); clear hK K; simp only [Act.put, List.setIfInBounds_toArray, List.set_cons_zero, List.set_cons_succ]
    refine plan_pure rfl (fun K hK => quiet_run (v := ?_) (fun W _ => ?_) (hK _ ?_)); rotate_left; (go_simp <;> with_reducible rfl); clear hK K; simp only [Act.put, List.setIfInBounds_toArray, List.set_cons_zero, List.set_cons_succ]
    refine plan_pure rfl (fun K hK => quiet_run (v := ?_) (fun W _ => ?_) (hK _ ?_)); rotate_left; (go_simp <;> with_reducible rfl); clear hK K; simp only [Act.put, List.setIfInBounds_toArray, List.set_cons_zero, List.set_cons_succ]
    refine plan_nil ?_; simp only [tailL, List.filterMap_cons, List.filterMap_nil, List.getElem?_toArray, List.getElem?_cons_succ, List.getElem?_cons_zero]; change wpList _ _ _ (_ :: _ :: _ :: []) _ _
    clear cHB zHB lHB cBX zBX lBX
    clear h1
    go_wp2_with fail
    have by0 := (Box.new w0 4 [.bool m, .bool false])
    have ey : Ext w0 (w0.alloc (Obj.cells #[.bool m, .bool false] 4)) := ((Keeps.refl NoB w0).alloc _)
    have sy : (w0.alloc (Obj.cells #[.bool m, .bool false] 4)).heap.size = w0.heap.size + 1 := by simp
    generalize (w0.alloc (Obj.cells #[.bool m, .bool false] 4)) = w1 at by0 ey sy ⊢
    have Sy := Lib.hid sy
    clear sy
    have HE1 := Lib.hid ((HE.out.ext ey).drew)
    refine (acc_all2 w1.drew _ m false by0.drew).mono ?_
    rintro e' w2 ⟨rfl, rfl⟩
    clear ey by0 hE0
    go_wp2_with fail
    go_ret
    exact ⟨by simp, HE1.out⟩
theorem acc_all4 (w : World) (b : Nat) (x y z u : Bool) (hb : Box w b 4 [.bool x, .bool y, .bool z, .bool u]) : Calls Tryd.prog 62 #[.slice (some ⟨b, 0, none⟩) 4 4] w fun e w' => e = .returned (.bool (x && y && z && u)) ∧ w' = w := by
  have HB := Lib.hid hb
  clear hb
  go_enter Tryd.func62, Tryd.ntmps62
  obtain ⟨cHB, zHB⟩ := HB.out.reads
  have lHB := HB.out.lt
  go_wp2_with fail
  refine wp_loop_rounds 6 ?_
  rw [rounds_succ]
  cases x
  · go_wp2_with fail
    go_ret
    exact ⟨by simp, rfl⟩
  go_wp2_with fail
  rw [rounds_succ]
  cases y
  · go_wp2_with fail
    go_ret
    exact ⟨by simp, rfl⟩
  go_wp2_with fail
  rw [rounds_succ]
  cases z
  · go_wp2_with fail
    go_ret
    exact ⟨by simp, rfl⟩
  go_wp2_with fail
  rw [rounds_succ]
  cases u
  · go_wp2_with fail
    go_ret
    exact ⟨by simp, rfl⟩
  go_wp2_with fail
  rw [rounds_succ]
  go_wp2_with fail
  go_ret
  exact ⟨by simp, rfl⟩

def noneB (e : En) : Bool := decide (e = ⟨e.kind, 0, 0, []⟩)
theorem none_cases (e : En) : (e.member = 0 ∧ e.number = 0 ∧ (bs e.text).toList = [] ∧ noneB e = true) ∨ (e.member = 0 ∧ e.number = 0 ∧ ¬ (bs e.text).toList = [] ∧ noneB e = false) ∨ (e.member = 0 ∧ ¬ e.number = 0 ∧ noneB e = false) ∨ (¬ e.member = 0 ∧ noneB e = false) := by
  obtain ⟨k, m, n, t⟩ := e
  rw [bs_toList]
  unfold noneB
  by_cases hm : m = 0
  · by_cases hn : n = 0
    · by_cases ht : t = []
      · exact .inl ⟨hm, hn, ht, by subst hm hn ht; simp⟩
      · exact .inr (.inl ⟨hm, hn, ht, by simp [ht]⟩)
    · exact .inr (.inr (.inl ⟨hm, hn, by simp [hn]⟩))
  · exact .inr (.inr (.inr ⟨hm, by simp [hm]⟩))
theorem right2_any (w : World) (e : En) :
    Calls Tryd.prog 63 #[e.v] w fun r w' => r = .returned (.bool (noneB e)) ∧ Ext w w' := by
  unfold En.v
  go_enter Tryd.func63, Tryd.ntmps63
  go_wp2_with fail
  all_goals
    go_ret
    refine ⟨?_, (Keeps.refl _ _).alloc _⟩
    rcases none_cases e with ⟨h1, h2, h3, h4⟩ | ⟨h1, h2, h3, h4⟩ | ⟨h1, h2, h4⟩ | ⟨h1, h4⟩ <;> rw [h4] <;> first | rfl | (exfalso; simp_all)
def sayB (m : Bool) (e : En) : Bool := m && decide (1 ≤ e.number) && decide (e.number ≤ 2147483647) && (chk e.text == 0)
theorem right3_any (w : World) (k : Nat) (m : Bool) (e : En) (hk : Box w k 4 [.bool m])
    (hC : ∀ w1, Ext w w1 → Calls Tryd.prog 65 #[.string (bs e.text)] w1 fun r w' => r = .returned (.int .i64 (chk e.text : Int)) ∧ Ext w1 w') :
    Calls Tryd.prog 64 #[e.v, .pointer (some ⟨k, 0, none⟩)] w fun r w' => r = .returned (.bool (sayB m e)) ∧ Ext w w' := by
  have HB := Lib.hid hk
  have HC := Lib.hid hC
  clear hk hC
  unfold En.v
  go_enter Tryd.func64, Tryd.ntmps64
  obtain ⟨cHB, zHB⟩ := HB.out.reads
  have lHB := HB.out.lt
  go_wp2_with fail
  have bx0 := (Box.new w 35 [.int .i64 e.kind, .int .i64 e.member, .int .i64 e.number, .string (bs e.text)])
  have ex : Ext w (w.alloc (Obj.cells #[.int .i64 e.kind, .int .i64 e.member, .int .i64 e.number, .string (bs e.text)] 35)) := ((Keeps.refl NoB w).alloc _)
  have sx : (w.alloc (Obj.cells #[.int .i64 e.kind, .int .i64 e.member, .int .i64 e.number, .string (bs e.text)] 35)).heap.size = w.heap.size + 1 := by simp
  generalize (w.alloc (Obj.cells #[.int .i64 e.kind, .int .i64 e.member, .int .i64 e.number, .string (bs e.text)] 35)) = w0 at bx0 ex sx ⊢
  have Sx := Lib.hid sx
  clear sx
  have BX := Lib.hid bx0
  clear cHB zHB lHB
  replace HB := Lib.hid (HB.out.ext ex)
  have HE := Lib.hid ex
  clear bx0 ex
  obtain ⟨cHB, zHB⟩ := HB.out.reads
  have lHB := HB.out.lt
  obtain ⟨cBX, zBX⟩ := BX.out.reads
  have lBX := BX.out.lt
  have hE0 : Keeps NoB w0 w0.drew := (Keeps.refl _ _).drew
  refine wp_region_plan [(1, 0), (0, 1), (1, 2), (0, 3), (0, 4), (1, 5), (0, 6), (0, 7), (3, 8), (2, 9), (0, 10)] [0, 2, 5] [9, 11, 12, 13] [11, 12, 13] (ClsE w0) (by kernel_rfl) (by kernel_rfl) (by kernel_rfl) rfl rfl (ClsE.of hE0) (fun _ _ _ d _ h => by cases d <;> exact h) ?_; simp only [planL, List.getElem?_toArray, List.getElem?_cons_succ, List.getElem?_cons_zero]
  refine plan_load rfl (fun K hK => quiet_runE (v := ?_) (fun W => ?_) (hK _ ?_)); rotate_left; (go_simp <;> with_reducible rfl); clear hK K; simp only [Act.put, List.setIfInBounds_toArray, List.set_cons_zero, List.set_cons_succ]
  refine plan_pure rfl (fun K hK => quiet_run (v := ?_) (fun W _ => ?_) (hK _ ?_)); rotate_left; (go_simp <;> with_reducible rfl); clear hK K; simp only [Act.put, List.setIfInBounds_toArray, List.set_cons_zero, List.set_cons_succ]
  refine plan_load rfl (fun K hK => quiet_runE (v := ?_) (fun W => ?_) (hK _ ?_)); rotate_left; (go_simp <;> with_reducible rfl); clear hK K; simp only [Act.put, List.setIfInBounds_toArray, List.set_cons_zero, List.set_cons_succ]
  refine plan_pure rfl (fun K hK => quiet_run (v := ?_) (fun W _ => ?_) (hK _ ?_)); rotate_left; (go_simp <;> with_reducible rfl); clear hK K; simp only [Act.put, List.setIfInBounds_toArray, List.set_cons_zero, List.set_cons_succ]
  refine plan_pure rfl (fun K hK => quiet_run (v := ?_) (fun W _ => ?_) (hK _ ?_)); rotate_left; (go_simp <;> with_reducible rfl); clear hK K; simp only [Act.put, List.setIfInBounds_toArray, List.set_cons_zero, List.set_cons_succ]
  refine plan_load rfl (fun K hK => quiet_runE (v := ?_) (fun W => ?_) (hK _ ?_)); rotate_left; (go_simp <;> with_reducible rfl); clear hK K; simp only [Act.put, List.setIfInBounds_toArray, List.set_cons_zero, List.set_cons_succ]
  refine plan_pure rfl (fun K hK => quiet_run (v := ?_) (fun W _ => ?_) (hK _ ?_)); rotate_left; (go_simp <;> with_reducible rfl); clear hK K; simp only [Act.put, List.setIfInBounds_toArray, List.set_cons_zero, List.set_cons_succ]
  refine plan_pure rfl (fun K hK => quiet_run (v := ?_) (fun W _ => ?_) (hK _ ?_)); rotate_left; (go_simp <;> with_reducible rfl); clear hK K; simp only [Act.put, List.setIfInBounds_toArray, List.set_cons_zero, List.set_cons_succ]
  refine plan_exact rfl (fun K hK => quiet_runX (v := ?_) ?_ (hK _ ?_)); rotate_left; (go_simp <;> with_reducible rfl); clear hK K; simp only [Act.put, List.setIfInBounds_toArray, List.set_cons_zero, List.set_cons_succ]
  refine plan_does rfl (fun K hK => ?_)
  go_wp2_with fail
  refine (HC.out _ (HE.out.ext hE0)).mono ?_
  rintro r w2 ⟨rfl, hE2⟩
  have hE02 := hE0.ext hE2
  refine hK _ _ ⟨ClsE.of (by assumption), ?_⟩; clear hK K; try simp only [Act.put, List.setIfInBounds_toArray, List.set_cons_zero, List.set_cons_succ]
  refine plan_pure rfl (fun K hK => quiet_run (v := ?_) (fun W _ => ?_) (hK _ ?_)); rotate_left; (go_simp <;> with_reducible rfl); clear hK K; simp only [Act.put, List.setIfInBounds_toArray, List.set_cons_zero, List.set_cons_succ]
  refine plan_nil ?_; simp only [tailL, List.filterMap_cons, List.filterMap_nil, List.getElem?_toArray, List.getElem?_cons_succ, List.getElem?_cons_zero]; change wpList _ _ _ (_ :: _ :: _ :: []) _ _
  clear cHB zHB lHB cBX zBX lBX
  go_wp2_with fail
  have by0 := (Box.new w2 4 [.bool m, .bool (decide (1 ≤ e.number)), .bool (decide (e.number ≤ 2147483647)), .bool ((chk e.text : Int) == 0)])
  have ey : Ext w2 (w2.alloc (Obj.cells #[.bool m, .bool (decide (1 ≤ e.number)), .bool (decide (e.number ≤ 2147483647)), .bool ((chk e.text : Int) == 0)] 4)) := ((Keeps.refl NoB w2).alloc _)
  have sy : (w2.alloc (Obj.cells #[.bool m, .bool (decide (1 ≤ e.number)), .bool (decide (e.number ≤ 2147483647)), .bool ((chk e.text : Int) == 0)] 4)).heap.size = w2.heap.size + 1 := by simp
  generalize (w2.alloc (Obj.cells #[.bool m, .bool (decide (1 ≤ e.number)), .bool (decide (e.number ≤ 2147483647)), .bool ((chk e.text : Int) == 0)] 4)) = w3 at by0 ey sy ⊢
  have Sy := Lib.hid sy
  clear sy
  have HE3 := Lib.hid ((HE.out.ext hE02).ext ey)
  refine (acc_all4 w3 _ _ _ _ _ by0).mono ?_
  rintro e' w4 ⟨rfl, rfl⟩
  clear ey by0 hE0 hE02 hE2
  have hs : (m && decide (1 ≤ e.number) && decide (e.number ≤ 2147483647) && ((chk e.text : Int) == 0)) = sayB m e := by
    have : ((chk e.text : Int) == 0) = (chk e.text == 0) := by
      rw [Bool.eq_iff_iff]; simp
    rw [this]; rfl
  rw [hs]
  clear hs
  go_wp2_with fail
  go_ret
  exact ⟨by simp, HE3.out⟩
/-- may an entry be? -/
def enB (e : En) : Bool := if e.kind = 1 then noneB e else if e.kind = 2 ∨ e.kind = 3 then memB e.member && aloneB e else if e.kind = 4 then sayB (memB e.member) e else false
def rightD (k : Nat) : List (Int × Value) := [(1, .func (.func 63) #[] #[]), (2, .func (.func 61) #[] #[.pointer (some ⟨k, 0, none⟩)]), (3, .func (.func 61) #[] #[.pointer (some ⟨k, 0, none⟩)]), (4, .func (.func 64) #[] #[.pointer (some ⟨k, 0, none⟩)])]
def nofn : Value := .nilFunc
theorem look_right (k : Nat) (e : En) (z : Value) : (e.kind = 1 ∧ lookI (rightD k) e.kind z = (.func (.func 63) #[] #[], true)) ∨ ((e.kind ≠ 1 ∧ (e.kind = 2 ∨ e.kind = 3)) ∧ lookI (rightD k) e.kind z = (.func (.func 61) #[] #[.pointer (some ⟨k, 0, none⟩)], true)) ∨
    ((e.kind ≠ 1 ∧ ¬ (e.kind = 2 ∨ e.kind = 3) ∧ e.kind = 4) ∧ lookI (rightD k) e.kind z = (.func (.func 64) #[] #[.pointer (some ⟨k, 0, none⟩)], true)) ∨ ((e.kind ≠ 1 ∧ ¬ (e.kind = 2 ∨ e.kind = 3) ∧ e.kind ≠ 4) ∧ lookI (rightD k) e.kind z = (z, false)) := by
  by_cases h1 : e.kind = 1
  · exact .inl ⟨h1, by rw [h1]; rfl⟩
  by_cases h2 : e.kind = 2
  · exact .inr (.inl ⟨⟨h1, .inl h2⟩, by rw [h2]; rfl⟩)
  by_cases h3 : e.kind = 3
  · exact .inr (.inl ⟨⟨h1, .inr h3⟩, by rw [h3]; rfl⟩)
  by_cases h4 : e.kind = 4
  · exact .inr (.inr (.inl ⟨⟨h1, by omega, h4⟩, by rw [h4]; rfl⟩))
  · refine .inr (.inr (.inr ⟨⟨h1, by omega, h4⟩, ?_⟩))
    unfold lookI rightD
    have a1 : ¬ (1 : Int) = e.kind := fun h => h1 h.symm
    have a2 : ¬ (2 : Int) = e.kind := fun h => h2 h.symm
    have a3 : ¬ (3 : Int) = e.kind := fun h => h3 h.symm
    have a4 : ¬ (4 : Int) = e.kind := fun h => h4 h.symm
    simp [a1, a2, a3, a4]
theorem zeroFn (w : World) : (zeroValue 78).run Tryd.prog w = .ok nofn w := by kernel_rfl
theorem right_any (w : World) (e : En) (hI : I64 e.kind)
    (hC : e.kind = 4 → ∀ w1, Ext w w1 → Calls Tryd.prog 65 #[.string (bs e.text)] w1 fun r w' => r = .returned (.int .i64 (chk e.text : Int)) ∧ Ext w1 w') :
    Calls Tryd.prog 43 #[e.v] w fun r w' => r = .returned (.bool (enB e)) ∧ Ext w w' := by
  have HC := Lib.hid hC
  have HI := Lib.hid hI
  clear hC hI
  unfold En.v
  by_cases hm : 0 ≤ e.member
  · have hXM : Hid ((decide (e.member < 16)) = memB e.member) := Lib.hid (by unfold memB; rw [decide_eq_true hm, Bool.true_and])
    go_enter Tryd.func43, Tryd.ntmps43
    go_wp2_with fail
    have bx0 := ((Box.new w 35 [.int .i64 e.kind, .int .i64 e.member, .int .i64 e.number, .string (bs e.text)]).alloc (Obj.cells #[.bool (decide (e.member < 16))] 4))
    have bx1 := (Box.new (w.alloc (Obj.cells #[.int .i64 e.kind, .int .i64 e.member, .int .i64 e.number, .string (bs e.text)] 35)) 4 [.bool (decide (e.member < 16))])
    have ex : Ext w ((w.alloc (Obj.cells #[.int .i64 e.kind, .int .i64 e.member, .int .i64 e.number, .string (bs e.text)] 35)).alloc (Obj.cells #[.bool (decide (e.member < 16))] 4)) := (((Keeps.refl NoB w).alloc _).alloc _)
    have sx : ((w.alloc (Obj.cells #[.int .i64 e.kind, .int .i64 e.member, .int .i64 e.number, .string (bs e.text)] 35)).alloc (Obj.cells #[.bool (decide (e.member < 16))] 4)).heap.size = w.heap.size + 2 := by simp
    simp only [World.size_alloc] at bx1
    generalize ((w.alloc (Obj.cells #[.int .i64 e.kind, .int .i64 e.member, .int .i64 e.number, .string (bs e.text)] 35)).alloc (Obj.cells #[.bool (decide (e.member < 16))] 4)) = w0 at bx0 bx1 ex sx ⊢
    have Sx := Lib.hid sx
    clear sx
    have HX := Lib.hid ex
    have B0 := Lib.hid bx0
    have B1 := Lib.hid bx1
    have hlt := bx1.lt
    clear ex bx0 bx1
    rw [hXM.out] at B1
    obtain ⟨k, hk⟩ : ∃ k, w.heap.size + 1 = k := ⟨_, rfl⟩
    have HKK := Lib.hid hk
    rw [hk]
    clear hk
    have hmm := run_makeMap (P := Tryd.prog) 114 w0
    have put := fun (w : World) (D : List (Int × Value)) (m : Nat) (h : MapI w m D) (n : Int) (hn : I64 n) (hne : ∀ p ∈ D, p.1 ≠ n) (v : Value) => h.put Tryd.underlying114 Tryd.underlying33 hn hne v
    obtain ⟨w1, r1, m1, k1⟩ := put _ _ _ (mapi_new w0) 1 (i64_lit 1 rfl) (by simp) (.func (.func 63) #[] #[])
    obtain ⟨w2, r2, m2, k2⟩ := put _ _ _ m1 2 (i64_lit 2 rfl) (by simp) (.func (.func 61) #[] #[.pointer (some ⟨k, 0, none⟩)])
    obtain ⟨w3, r3, m3, k3⟩ := put _ _ _ m2 3 (i64_lit 3 rfl) (by simp) (.func (.func 61) #[] #[.pointer (some ⟨k, 0, none⟩)])
    obtain ⟨w4, r4, m4, k4⟩ := put _ _ _ m3 4 (i64_lit 4 rfl) (by simp) (.func (.func 64) #[] #[.pointer (some ⟨k, 0, none⟩)])
    have hE4 : Ext w0 w4 := ((Keeps.refl NoB w0).alloc _).then (((k1.trans k2).trans k3).trans k4) fun i hi h => absurd (show i = w0.heap.size from h) (by omega)
    have hlk : (Instr.lookup 114 (.map (some w0.heap.size)) (.int .i64 e.kind) true).run Tryd.prog w4 = .ok (.tuple #[(lookI (rightD k) e.kind nofn).1, .bool (lookI (rightD k) e.kind nofn).2]) w4 :=
      MapI.look (D := rightD k) m4 Tryd.underlying114 Tryd.underlying33 zeroFn HI.out (by unfold rightD; simp) true
    replace B0 := Lib.hid (B0.out.ext hE4)
    replace B1 := Lib.hid (B1.out.ext hE4)
    have HE := Lib.hid (HX.out.ext hE4)
    clear m1 m2 m3 m4 k1 k2 k3 k4 put hE4 hlt
    obtain ⟨cB0, zB0⟩ := B0.out.reads
    have lB0 := B0.out.lt
    rcases look_right k e nofn with ⟨h1, h2⟩ | ⟨h1, h2⟩ | ⟨h1, h2⟩ | ⟨h1, h2⟩
    · rw [h2] at hlk
      have H1 := Lib.hid h1
      clear h1 h2
      go_wp2_with fail
      refine (right2_any _ e).mono ?_
      rintro r w5 ⟨rfl, hE5⟩
      have HE5 := Lib.hid (HE.out.ext hE5)
      clear hE5
      clear cB0 zB0 lB0
      go_wp2_with fail
      go_ret
      exact ⟨by rw [enB, if_pos H1.out]; simp, HE5.out⟩
    · rw [h2] at hlk
      have H1 := Lib.hid h1
      clear h1 h2
      go_wp2_with fail
      refine (right1_any _ k (memB e.member) e (by have h9 := B1.out; rw [HKK.out] at h9; exact h9)).mono ?_
      rintro r w5 ⟨rfl, hE5⟩
      have HE5 := Lib.hid (HE.out.ext hE5)
      clear hE5
      clear cB0 zB0 lB0
      go_wp2_with fail
      go_ret
      exact ⟨by rw [enB, if_neg H1.out.1, if_pos H1.out.2]; simp, HE5.out⟩
    · rw [h2] at hlk
      have H1 := Lib.hid h1
      clear h1 h2
      go_wp2_with fail
      refine (right3_any _ k (memB e.member) e (by have h9 := B1.out; rw [HKK.out] at h9; exact h9) (fun W hW => HC.out H1.out.2.2 W (HE.out.ext hW))).mono ?_
      rintro r w5 ⟨rfl, hE5⟩
      have HE5 := Lib.hid (HE.out.ext hE5)
      clear hE5
      clear cB0 zB0 lB0
      go_wp2_with fail
      go_ret
      exact ⟨by rw [enB, if_neg H1.out.1, if_neg H1.out.2.1, if_pos H1.out.2.2]; simp, HE5.out⟩
    · rw [h2] at hlk
      have H1 := Lib.hid h1
      clear h1 h2
      go_wp2_with fail
      clear cB0 zB0 lB0
      go_ret
      exact ⟨by rw [enB, if_neg H1.out.1, if_neg H1.out.2.1, if_neg H1.out.2.2]; simp, HE.out⟩
  · have hXM : Hid (false = memB e.member) := Lib.hid (by unfold memB; rw [decide_eq_false hm, Bool.false_and])
    have hm2 : e.member < 0 := by omega
    go_enter Tryd.func43, Tryd.ntmps43
    go_wp2_with fail
    have bx0 := ((Box.new w 35 [.int .i64 e.kind, .int .i64 e.member, .int .i64 e.number, .string (bs e.text)]).alloc (Obj.cells #[.bool false] 4))
    have bx1 := (Box.new (w.alloc (Obj.cells #[.int .i64 e.kind, .int .i64 e.member, .int .i64 e.number, .string (bs e.text)] 35)) 4 [.bool false])
    have ex : Ext w ((w.alloc (Obj.cells #[.int .i64 e.kind, .int .i64 e.member, .int .i64 e.number, .string (bs e.text)] 35)).alloc (Obj.cells #[.bool false] 4)) := (((Keeps.refl NoB w).alloc _).alloc _)
    have sx : ((w.alloc (Obj.cells #[.int .i64 e.kind, .int .i64 e.member, .int .i64 e.number, .string (bs e.text)] 35)).alloc (Obj.cells #[.bool false] 4)).heap.size = w.heap.size + 2 := by simp
    simp only [World.size_alloc] at bx1
    generalize ((w.alloc (Obj.cells #[.int .i64 e.kind, .int .i64 e.member, .int .i64 e.number, .string (bs e.text)] 35)).alloc (Obj.cells #[.bool false] 4)) = w0 at bx0 bx1 ex sx ⊢
    have Sx := Lib.hid sx
    clear sx
    have HX := Lib.hid ex
    have B0 := Lib.hid bx0
    have B1 := Lib.hid bx1
    have hlt := bx1.lt
    clear ex bx0 bx1
    rw [hXM.out] at B1
    obtain ⟨k, hk⟩ : ∃ k, w.heap.size + 1 = k := ⟨_, rfl⟩
    have HKK := Lib.hid hk
    rw [hk]
    clear hk
    have hmm := run_makeMap (P := Tryd.prog) 114 w0
    have put := fun (w : World) (D : List (Int × Value)) (m : Nat) (h : MapI w m D) (n : Int) (hn : I64 n) (hne : ∀ p ∈ D, p.1 ≠ n) (v : Value) => h.put Tryd.underlying114 Tryd.underlying33 hn hne v
    obtain ⟨w1, r1, m1, k1⟩ := put _ _ _ (mapi_new w0) 1 (i64_lit 1 rfl) (by simp) (.func (.func 63) #[] #[])
    obtain ⟨w2, r2, m2, k2⟩ := put _ _ _ m1 2 (i64_lit 2 rfl) (by simp) (.func (.func 61) #[] #[.pointer (some ⟨k, 0, none⟩)])
    obtain ⟨w3, r3, m3, k3⟩ := put _ _ _ m2 3 (i64_lit 3 rfl) (by simp) (.func (.func 61) #[] #[.pointer (some ⟨k, 0, none⟩)])
    obtain ⟨w4, r4, m4, k4⟩ := put _ _ _ m3 4 (i64_lit 4 rfl) (by simp) (.func (.func 64) #[] #[.pointer (some ⟨k, 0, none⟩)])
    have hE4 : Ext w0 w4 := ((Keeps.refl NoB w0).alloc _).then (((k1.trans k2).trans k3).trans k4) fun i hi h => absurd (show i = w0.heap.size from h) (by omega)
    have hlk : (Instr.lookup 114 (.map (some w0.heap.size)) (.int .i64 e.kind) true).run Tryd.prog w4 = .ok (.tuple #[(lookI (rightD k) e.kind nofn).1, .bool (lookI (rightD k) e.kind nofn).2]) w4 :=
      MapI.look (D := rightD k) m4 Tryd.underlying114 Tryd.underlying33 zeroFn HI.out (by unfold rightD; simp) true
    replace B0 := Lib.hid (B0.out.ext hE4)
    replace B1 := Lib.hid (B1.out.ext hE4)
    have HE := Lib.hid (HX.out.ext hE4)
    clear m1 m2 m3 m4 k1 k2 k3 k4 put hE4 hlt
    obtain ⟨cB0, zB0⟩ := B0.out.reads
    have lB0 := B0.out.lt
    rcases look_right k e nofn with ⟨h1, h2⟩ | ⟨h1, h2⟩ | ⟨h1, h2⟩ | ⟨h1, h2⟩
    · rw [h2] at hlk
      have H1 := Lib.hid h1
      clear h1 h2
      go_wp2_with fail
      refine (right2_any _ e).mono ?_
      rintro r w5 ⟨rfl, hE5⟩
      have HE5 := Lib.hid (HE.out.ext hE5)
      clear hE5
      clear cB0 zB0 lB0
      go_wp2_with fail
      go_ret
      exact ⟨by rw [enB, if_pos H1.out]; simp, HE5.out⟩
    · rw [h2] at hlk
      have H1 := Lib.hid h1
      clear h1 h2
      go_wp2_with fail
      refine (right1_any _ k (memB e.member) e (by have h9 := B1.out; rw [HKK.out] at h9; exact h9)).mono ?_
      rintro r w5 ⟨rfl, hE5⟩
      have HE5 := Lib.hid (HE.out.ext hE5)
      clear hE5
      clear cB0 zB0 lB0
      go_wp2_with fail
      go_ret
      exact ⟨by rw [enB, if_neg H1.out.1, if_pos H1.out.2]; simp, HE5.out⟩
    · rw [h2] at hlk
      have H1 := Lib.hid h1
      clear h1 h2
      go_wp2_with fail
      refine (right3_any _ k (memB e.member) e (by have h9 := B1.out; rw [HKK.out] at h9; exact h9) (fun W hW => HC.out H1.out.2.2 W (HE.out.ext hW))).mono ?_
      rintro r w5 ⟨rfl, hE5⟩
      have HE5 := Lib.hid (HE.out.ext hE5)
      clear hE5
      clear cB0 zB0 lB0
      go_wp2_with fail
      go_ret
      exact ⟨by rw [enB, if_neg H1.out.1, if_neg H1.out.2.1, if_pos H1.out.2.2]; simp, HE5.out⟩
    · rw [h2] at hlk
      have H1 := Lib.hid h1
      clear h1 h2
      go_wp2_with fail
      clear cB0 zB0 lB0
      go_ret
      exact ⟨by rw [enB, if_neg H1.out.1, if_neg H1.out.2.1, if_neg H1.out.2.2]; simp, HE.out⟩
end Go.Proofs.YthhdgjofagdjeaaDoor
