/- What an entry does to a member's standing. Condition: the talk lies as 'TalkAt' says. -/
import Derived.Test.YthhdgjofagdjeaaDoorJF
import Derived.Test.YthhdgjofagdjeaaDoorJB
set_option linter.unusedVariables false
set_option linter.unusedSimpArgs false
set_option maxHeartbeats 1000000
set_option maxRecDepth 10000
namespace Go.Proofs.YthhdgjofagdjeaaDoor
open Go.RowKit

theorem joins_any {F : Nat → Prop} (w : World) (b : Nat) (T : TA) (s : St) (e : En) (h : TalkX w F b T) :
    Calls Tryd.prog 69 #[.pointer (some ⟨b, 0, none⟩), s.v, e.v] w fun r w' => r = .returned (.tuple #[(⟨true, (T.l.length : Int), s.last⟩ : St).v, .bool (!s.inn)]) ∧ Ext w w' := by
  obtain ⟨v, h⟩ := h
  obtain ⟨c0, c1, c50, lt⟩ := h.see
  obtain ⟨a, c, rfl⟩ := h.len
  clear h c1 c50
  unfold En.v St.v
  go_enter Tryd.func69, Tryd.ntmps69
  go_wp2_with fail
  have bx0 := (((Box.new w 90 [.bool s.inn, .int .i64 s.joined, .int .i64 s.last]).alloc (Obj.cells #[.int .i64 e.kind, .int .i64 e.member, .int .i64 e.number, .string (bs e.text)] 35)).alloc (Obj.cells #[.bool false, .int .i64 0, .int .i64 0] 90))
  have bx1 := ((Box.new (w.alloc (Obj.cells #[.bool s.inn, .int .i64 s.joined, .int .i64 s.last] 90)) 35 [.int .i64 e.kind, .int .i64 e.member, .int .i64 e.number, .string (bs e.text)]).alloc (Obj.cells #[.bool false, .int .i64 0, .int .i64 0] 90))
  have bx2 := (Box.new ((w.alloc (Obj.cells #[.bool s.inn, .int .i64 s.joined, .int .i64 s.last] 90)).alloc (Obj.cells #[.int .i64 e.kind, .int .i64 e.member, .int .i64 e.number, .string (bs e.text)] 35)) 90 [.bool false, .int .i64 0, .int .i64 0])
  have ex : Ext w (((w.alloc (Obj.cells #[.bool s.inn, .int .i64 s.joined, .int .i64 s.last] 90)).alloc (Obj.cells #[.int .i64 e.kind, .int .i64 e.member, .int .i64 e.number, .string (bs e.text)] 35)).alloc (Obj.cells #[.bool false, .int .i64 0, .int .i64 0] 90)) := ((((Keeps.refl NoB w).alloc _).alloc _).alloc _)
  have sx : (((w.alloc (Obj.cells #[.bool s.inn, .int .i64 s.joined, .int .i64 s.last] 90)).alloc (Obj.cells #[.int .i64 e.kind, .int .i64 e.member, .int .i64 e.number, .string (bs e.text)] 35)).alloc (Obj.cells #[.bool false, .int .i64 0, .int .i64 0] 90)).heap.size = w.heap.size + 3 := by simp
  simp only [World.size_alloc] at bx1 bx2
  generalize (((w.alloc (Obj.cells #[.bool s.inn, .int .i64 s.joined, .int .i64 s.last] 90)).alloc (Obj.cells #[.int .i64 e.kind, .int .i64 e.member, .int .i64 e.number, .string (bs e.text)] 35)).alloc (Obj.cells #[.bool false, .int .i64 0, .int .i64 0] 90)) = w0 at bx0 bx1 bx2 ex sx ⊢
  have Sx := Lib.hid sx
  clear sx
  have B0 := Lib.hid bx0
  have B1 := Lib.hid bx1
  have B2 := Lib.hid bx2
  have HE := Lib.hid ex
  have n0 : ¬ OneB (w.heap.size + 1 + 1) w.heap.size := by unfold OneB; omega
  have d0 := ex.cell c0
  have dl := Nat.lt_of_lt_of_le lt ex.size
  have n1 : ¬ OneB (w.heap.size + 1 + 1) b := by unfold OneB; omega
  clear bx0 bx1 bx2 ex c0 lt
  obtain ⟨cB0, zB0⟩ := B0.out.reads
  have lB0 := B0.out.lt
  obtain ⟨cB2, zB2⟩ := B2.out.reads
  have lB2 := B2.out.lt
  have hE0 : Keeps (OneB (w.heap.size + 1 + 1)) w0 w0.drew := (Keeps.refl _ _).drew
  refine wp_region_plan [(0, 0), (0, 1), (0, 2), (3, 3), (0, 4), (0, 5), (3, 6), (0, 7), (0, 8), (1, 9), (0, 10), (2, 11), (0, 12)] [9] [11] [] (ClsK (OneB (w.heap.size + 1 + 1)) w0) (by kernel_rfl) (by kernel_rfl) (by kernel_rfl) rfl rfl (ClsK.of hE0) (fun _ _ _ d _ h => by cases d <;> exact h) ?_; simp only [planL, List.getElem?_toArray, List.getElem?_cons_succ, List.getElem?_cons_zero]
  refine plan_pure rfl (fun K hK => quiet_move' _ rfl (hK _ ?_)); clear hK K; simp only [Act.put, Act.eval, Array.getD_eq_getD_getElem?, List.getElem?_toArray, List.getElem?_cons_zero, Option.getD_some, List.setIfInBounds_toArray, List.set_cons_zero, List.set_cons_succ]
  refine plan_pure rfl (fun K hK => quiet_run (v := ?_) (fun W _ => ?_) (hK _ ?_)); rotate_left; (go_simp <;> with_reducible rfl); clear hK K; simp only [Act.put, List.setIfInBounds_toArray, List.set_cons_zero, List.set_cons_succ]
  refine plan_pure rfl (fun K hK => quiet_run (v := ?_) (fun W _ => ?_) (hK _ ?_)); rotate_left; (go_simp <;> with_reducible rfl); clear hK K; simp only [Act.put, List.setIfInBounds_toArray, List.set_cons_zero, List.set_cons_succ]
  refine plan_exact rfl (fun K hK => quiet_runX (v := ?_) ?_ (hK _ ?_)); rotate_left; (go_simp <;> with_reducible rfl); clear hK K; simp only [Act.put, List.setIfInBounds_toArray, List.set_cons_zero, List.set_cons_succ]
  refine plan_pure rfl (fun K hK => quiet_run (v := ?_) (fun W _ => ?_) (hK _ ?_)); rotate_left; (go_simp <;> with_reducible rfl); clear hK K; simp only [Act.put, List.setIfInBounds_toArray, List.set_cons_zero, List.set_cons_succ]
  refine plan_pure rfl (fun K hK => quiet_run (v := ?_) (fun W _ => ?_) (hK _ ?_)); rotate_left; (go_simp <;> with_reducible rfl); clear hK K; simp only [Act.put, List.setIfInBounds_toArray, List.set_cons_zero, List.set_cons_succ]
  refine plan_exact rfl (fun K hK => quiet_runX (v := ?_) ?_ (hK _ ?_)); rotate_left; (go_simp <;> with_reducible rfl); clear hK K; simp only [Act.put, List.setIfInBounds_toArray, List.set_cons_zero, List.set_cons_succ]
  refine plan_pure rfl (fun K hK => quiet_run (v := ?_) (fun W _ => ?_) (hK _ ?_)); rotate_left; (go_simp <;> with_reducible rfl); clear hK K; simp only [Act.put, List.setIfInBounds_toArray, List.set_cons_zero, List.set_cons_succ]
  refine plan_pure rfl (fun K hK => quiet_run (v := ?_) (fun W _ => ?_) (hK _ ?_)); rotate_left; (go_simp <;> with_reducible rfl); clear hK K; simp only [Act.put, List.setIfInBounds_toArray, List.set_cons_zero, List.set_cons_succ]
  refine plan_load rfl (fun K hK => quiet_runK (v := ?_) (fun W => ?_) (hK _ ?_)); rotate_left; (go_simp <;> with_reducible rfl); clear hK K; simp only [Act.put, List.setIfInBounds_toArray, List.set_cons_zero, List.set_cons_succ]
  refine plan_pure rfl (fun K hK => quiet_run (v := ?_) (fun W _ => ?_) (hK _ ?_)); rotate_left; (go_simp <;> with_reducible rfl); clear hK K; simp only [Act.put, List.setIfInBounds_toArray, List.set_cons_zero, List.set_cons_succ]
  refine plan_does rfl (fun K hK => ?_)
  go_wp2_with fail
  refine ⟨ClsK.of (by repeat (first | assumption | exact Keeps.refl _ _ | refine Keeps.alloc ?_ _ | refine Keeps.setOne ?_ _ _ | refine Keeps.setCell ?_ _ _ (.inl (by first | rfl | exact .inl rfl | exact .inr rfl | omega)) | refine Keeps.drew ?_)), ?_⟩; try simp only [Act.put]
  refine plan_pure rfl (fun K hK => quiet_assign' _ rfl (hK _ ?_)); clear hK K; simp only [Act.put, Act.eval, Array.getD_eq_getD_getElem?, List.getElem?_toArray, List.getElem?_cons_zero, List.getElem?_cons_succ, Option.getD_some, List.setIfInBounds_toArray, List.set_cons_zero, List.set_cons_succ]
  refine plan_nil ?_; simp only [tailL, List.filterMap_nil]
  go_wp2_with fail
  clear cB0 zB0 lB0 cB2 zB2 lB2
  have hs := Sx.out
  have q := ((B2.out.set 0 (.bool true)).set 1 (.int .i64 (T.l.length : Int))).set 2 (.int .i64 s.last)
  dsimp only [List.set_cons_zero, List.set_cons_succ] at q
  have q1 := q.reads.1
  refine bodyPost_ret (v := .tuple #[.agg #[.bool true, .int .i64 (T.l.length : Int), .int .i64 s.last], .bool (!s.inn)]) (by simp [results, Tryd.results69, go_sem, q1]) rfl ⟨rfl, ?_⟩
  exact HE.out.then ((((Keeps.refl (OneB (w.heap.size + 1 + 1)) w0).setOne 0 _).setOne 1 _).setOne 2 _).drew (fun i hi h => by unfold OneB at h; omega)
theorem leaves_any {p : Value} (w : World) (s : St) (e : En) :
    Calls Tryd.prog 70 #[p, s.v, e.v] w fun r w' => r = .returned (.tuple #[(⟨false, s.joined, s.last⟩ : St).v, .bool s.inn]) ∧ Ext w w' := by
  unfold En.v St.v
  go_enter Tryd.func70, Tryd.ntmps70
  go_wp2_with fail
  have bx0 := (((Box.new w 90 [.bool s.inn, .int .i64 s.joined, .int .i64 s.last]).alloc (Obj.cells #[.int .i64 e.kind, .int .i64 e.member, .int .i64 e.number, .string (bs e.text)] 35)).alloc (Obj.cells #[.bool false, .int .i64 0, .int .i64 0] 90))
  have bx1 := ((Box.new (w.alloc (Obj.cells #[.bool s.inn, .int .i64 s.joined, .int .i64 s.last] 90)) 35 [.int .i64 e.kind, .int .i64 e.member, .int .i64 e.number, .string (bs e.text)]).alloc (Obj.cells #[.bool false, .int .i64 0, .int .i64 0] 90))
  have bx2 := (Box.new ((w.alloc (Obj.cells #[.bool s.inn, .int .i64 s.joined, .int .i64 s.last] 90)).alloc (Obj.cells #[.int .i64 e.kind, .int .i64 e.member, .int .i64 e.number, .string (bs e.text)] 35)) 90 [.bool false, .int .i64 0, .int .i64 0])
  have ex : Ext w (((w.alloc (Obj.cells #[.bool s.inn, .int .i64 s.joined, .int .i64 s.last] 90)).alloc (Obj.cells #[.int .i64 e.kind, .int .i64 e.member, .int .i64 e.number, .string (bs e.text)] 35)).alloc (Obj.cells #[.bool false, .int .i64 0, .int .i64 0] 90)) := ((((Keeps.refl NoB w).alloc _).alloc _).alloc _)
  have sx : (((w.alloc (Obj.cells #[.bool s.inn, .int .i64 s.joined, .int .i64 s.last] 90)).alloc (Obj.cells #[.int .i64 e.kind, .int .i64 e.member, .int .i64 e.number, .string (bs e.text)] 35)).alloc (Obj.cells #[.bool false, .int .i64 0, .int .i64 0] 90)).heap.size = w.heap.size + 3 := by simp
  simp only [World.size_alloc] at bx1 bx2
  generalize (((w.alloc (Obj.cells #[.bool s.inn, .int .i64 s.joined, .int .i64 s.last] 90)).alloc (Obj.cells #[.int .i64 e.kind, .int .i64 e.member, .int .i64 e.number, .string (bs e.text)] 35)).alloc (Obj.cells #[.bool false, .int .i64 0, .int .i64 0] 90)) = w0 at bx0 bx1 bx2 ex sx ⊢
  have Sx := Lib.hid sx
  clear sx
  have B0 := Lib.hid bx0
  have B1 := Lib.hid bx1
  have B2 := Lib.hid bx2
  have HE := Lib.hid ex
  have n0 : ¬ OneB (w.heap.size + 1 + 1) w.heap.size := by unfold OneB; omega
  clear bx0 bx1 bx2 ex
  obtain ⟨cB0, zB0⟩ := B0.out.reads
  have lB0 := B0.out.lt
  obtain ⟨cB2, zB2⟩ := B2.out.reads
  have lB2 := B2.out.lt
  have hE0 : Keeps (OneB (w.heap.size + 1 + 1)) w0 w0.drew := (Keeps.refl _ _).drew
  refine wp_region_plan [(0, 0), (3, 1), (0, 2), (3, 3), (0, 4), (0, 5), (1, 6), (2, 7), (0, 8)] [6] [7] [] (ClsK (OneB (w.heap.size + 1 + 1)) w0) (by kernel_rfl) (by kernel_rfl) (by kernel_rfl) rfl rfl (ClsK.of hE0) (fun _ _ _ d _ h => by cases d <;> exact h) ?_; simp only [planL, List.getElem?_toArray, List.getElem?_cons_succ, List.getElem?_cons_zero]
  refine plan_pure rfl (fun K hK => quiet_run (v := ?_) (fun W _ => ?_) (hK _ ?_)); rotate_left; (go_simp <;> with_reducible rfl); clear hK K; simp only [Act.put, List.setIfInBounds_toArray, List.set_cons_zero, List.set_cons_succ]
  refine plan_exact rfl (fun K hK => quiet_runX (v := ?_) ?_ (hK _ ?_)); rotate_left; (go_simp <;> with_reducible rfl); clear hK K; simp only [Act.put, List.setIfInBounds_toArray, List.set_cons_zero, List.set_cons_succ]
  refine plan_pure rfl (fun K hK => quiet_run (v := ?_) (fun W _ => ?_) (hK _ ?_)); rotate_left; (go_simp <;> with_reducible rfl); clear hK K; simp only [Act.put, List.setIfInBounds_toArray, List.set_cons_zero, List.set_cons_succ]
  refine plan_exact rfl (fun K hK => quiet_runX (v := ?_) ?_ (hK _ ?_)); rotate_left; (go_simp <;> with_reducible rfl); clear hK K; simp only [Act.put, List.setIfInBounds_toArray, List.set_cons_zero, List.set_cons_succ]
  refine plan_pure rfl (fun K hK => quiet_run (v := ?_) (fun W _ => ?_) (hK _ ?_)); rotate_left; (go_simp <;> with_reducible rfl); clear hK K; simp only [Act.put, List.setIfInBounds_toArray, List.set_cons_zero, List.set_cons_succ]
  refine plan_pure rfl (fun K hK => quiet_run (v := ?_) (fun W _ => ?_) (hK _ ?_)); rotate_left; (go_simp <;> with_reducible rfl); clear hK K; simp only [Act.put, List.setIfInBounds_toArray, List.set_cons_zero, List.set_cons_succ]
  refine plan_load rfl (fun K hK => quiet_runK (v := ?_) (fun W => ?_) (hK _ ?_)); rotate_left; (go_simp <;> with_reducible rfl); clear hK K; simp only [Act.put, List.setIfInBounds_toArray, List.set_cons_zero, List.set_cons_succ]
  refine plan_does rfl (fun K hK => ?_)
  go_wp2_with fail
  refine ⟨ClsK.of (by repeat (first | assumption | exact Keeps.refl _ _ | refine Keeps.alloc ?_ _ | refine Keeps.setOne ?_ _ _ | refine Keeps.setCell ?_ _ _ (.inl (by first | rfl | exact .inl rfl | exact .inr rfl | omega)) | refine Keeps.drew ?_)), ?_⟩; try simp only [Act.put]
  refine plan_pure rfl (fun K hK => quiet_assign' _ rfl (hK _ ?_)); clear hK K; simp only [Act.put, Act.eval, Array.getD_eq_getD_getElem?, List.getElem?_toArray, List.getElem?_cons_zero, List.getElem?_cons_succ, Option.getD_some, List.setIfInBounds_toArray, List.set_cons_zero, List.set_cons_succ]
  refine plan_nil ?_; simp only [tailL, List.filterMap_nil]
  go_wp2_with fail
  clear cB0 zB0 lB0 cB2 zB2 lB2
  have hs := Sx.out
  have q := ((B2.out.set 0 (.bool false)).set 1 (.int .i64 s.joined)).set 2 (.int .i64 s.last)
  dsimp only [List.set_cons_zero, List.set_cons_succ] at q
  have q1 := q.reads.1
  refine bodyPost_ret (v := .tuple #[.agg #[.bool false, .int .i64 s.joined, .int .i64 s.last], .bool s.inn]) (by simp [results, Tryd.results70, go_sem, q1]) rfl ⟨rfl, ?_⟩
  exact HE.out.then ((((Keeps.refl (OneB (w.heap.size + 1 + 1)) w0).setOne 0 _).setOne 1 _).setOne 2 _).drew (fun i hi h => by unfold OneB at h; omega)
def saysB (s : St) (e : En) : Bool := s.inn && (e.number == wrap64 (s.last + 1))
theorem says_any {p : Value} (w : World) (s : St) (e : En) :
    Calls Tryd.prog 71 #[p, s.v, e.v] w fun r w' => r = .returned (.tuple #[(⟨s.inn, s.joined, e.number⟩ : St).v, .bool (saysB s e)]) ∧ Ext w w' := by
  obtain ⟨inn, joined, last⟩ := s
  cases inn
  · skip
    unfold En.v St.v
    go_enter Tryd.func71, Tryd.ntmps71
    go_wp2_with fail
    have bx0 := (((Box.new w 90 [.bool false, .int .i64 joined, .int .i64 e.number]).alloc (Obj.cells #[.int .i64 e.kind, .int .i64 e.member, .int .i64 e.number, .string (bs e.text)] 35)).alloc (Obj.cells #[.bool false, .int .i64 joined, .int .i64 e.number] 90))
    have bx1 := ((Box.new (w.alloc (Obj.cells #[.bool false, .int .i64 joined, .int .i64 e.number] 90)) 35 [.int .i64 e.kind, .int .i64 e.member, .int .i64 e.number, .string (bs e.text)]).alloc (Obj.cells #[.bool false, .int .i64 joined, .int .i64 e.number] 90))
    have bx2 := (Box.new ((w.alloc (Obj.cells #[.bool false, .int .i64 joined, .int .i64 e.number] 90)).alloc (Obj.cells #[.int .i64 e.kind, .int .i64 e.member, .int .i64 e.number, .string (bs e.text)] 35)) 90 [.bool false, .int .i64 joined, .int .i64 e.number])
    have ex : Ext w (((w.alloc (Obj.cells #[.bool false, .int .i64 joined, .int .i64 e.number] 90)).alloc (Obj.cells #[.int .i64 e.kind, .int .i64 e.member, .int .i64 e.number, .string (bs e.text)] 35)).alloc (Obj.cells #[.bool false, .int .i64 joined, .int .i64 e.number] 90)) := ((((Keeps.refl NoB w).alloc _).alloc _).alloc _)
    have sx : (((w.alloc (Obj.cells #[.bool false, .int .i64 joined, .int .i64 e.number] 90)).alloc (Obj.cells #[.int .i64 e.kind, .int .i64 e.member, .int .i64 e.number, .string (bs e.text)] 35)).alloc (Obj.cells #[.bool false, .int .i64 joined, .int .i64 e.number] 90)).heap.size = w.heap.size + 3 := by simp
    simp only [World.size_alloc] at bx1 bx2
    generalize (((w.alloc (Obj.cells #[.bool false, .int .i64 joined, .int .i64 e.number] 90)).alloc (Obj.cells #[.int .i64 e.kind, .int .i64 e.member, .int .i64 e.number, .string (bs e.text)] 35)).alloc (Obj.cells #[.bool false, .int .i64 joined, .int .i64 e.number] 90)) = w0 at bx0 bx1 bx2 ex sx ⊢
    have Sx := Lib.hid sx
    clear sx
    have q1 := bx2.reads.1
    exact bodyPost_ret (v := .tuple #[.agg #[.bool false, .int .i64 joined, .int .i64 e.number], .bool (saysB ⟨false, joined, last⟩ e)]) (by simp [results, Tryd.results71, go_sem, q1, saysB]) rfl ⟨rfl, ex⟩
  · skip
    unfold En.v St.v
    go_enter Tryd.func71, Tryd.ntmps71
    go_wp2_with fail
    have bx0 := (((Box.new w 90 [.bool true, .int .i64 joined, .int .i64 e.number]).alloc (Obj.cells #[.int .i64 e.kind, .int .i64 e.member, .int .i64 e.number, .string (bs e.text)] 35)).alloc (Obj.cells #[.bool true, .int .i64 joined, .int .i64 e.number] 90))
    have bx1 := ((Box.new (w.alloc (Obj.cells #[.bool true, .int .i64 joined, .int .i64 e.number] 90)) 35 [.int .i64 e.kind, .int .i64 e.member, .int .i64 e.number, .string (bs e.text)]).alloc (Obj.cells #[.bool true, .int .i64 joined, .int .i64 e.number] 90))
    have bx2 := (Box.new ((w.alloc (Obj.cells #[.bool true, .int .i64 joined, .int .i64 e.number] 90)).alloc (Obj.cells #[.int .i64 e.kind, .int .i64 e.member, .int .i64 e.number, .string (bs e.text)] 35)) 90 [.bool true, .int .i64 joined, .int .i64 e.number])
    have ex : Ext w (((w.alloc (Obj.cells #[.bool true, .int .i64 joined, .int .i64 e.number] 90)).alloc (Obj.cells #[.int .i64 e.kind, .int .i64 e.member, .int .i64 e.number, .string (bs e.text)] 35)).alloc (Obj.cells #[.bool true, .int .i64 joined, .int .i64 e.number] 90)) := ((((Keeps.refl NoB w).alloc _).alloc _).alloc _)
    have sx : (((w.alloc (Obj.cells #[.bool true, .int .i64 joined, .int .i64 e.number] 90)).alloc (Obj.cells #[.int .i64 e.kind, .int .i64 e.member, .int .i64 e.number, .string (bs e.text)] 35)).alloc (Obj.cells #[.bool true, .int .i64 joined, .int .i64 e.number] 90)).heap.size = w.heap.size + 3 := by simp
    simp only [World.size_alloc] at bx1 bx2
    generalize (((w.alloc (Obj.cells #[.bool true, .int .i64 joined, .int .i64 e.number] 90)).alloc (Obj.cells #[.int .i64 e.kind, .int .i64 e.member, .int .i64 e.number, .string (bs e.text)] 35)).alloc (Obj.cells #[.bool true, .int .i64 joined, .int .i64 e.number] 90)) = w0 at bx0 bx1 bx2 ex sx ⊢
    have Sx := Lib.hid sx
    clear sx
    have q1 := bx2.reads.1
    exact bodyPost_ret (v := .tuple #[.agg #[.bool true, .int .i64 joined, .int .i64 e.number], .bool (saysB ⟨true, joined, last⟩ e)]) (by simp [results, Tryd.results71, go_sem, q1, saysB]) rfl ⟨rfl, ex⟩
end Go.Proofs.YthhdgjofagdjeaaDoor
