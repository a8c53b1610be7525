/- The ring's New, Take, Lost, All: what they tell and how the ring stands. Conditions: the ring is laid out as 'RingAt' says. -/
import Derived.Test.YtocjnieehogcbaaRingC
import Derived.Test.YtocjnieehogcbaaRange
set_option linter.unusedVariables false
set_option maxHeartbeats 400000
namespace Go.Proofs.Ytocjnieehogcbaa
open Go.RowKit

theorem new_no (w : World) (m : Int) (h : m < 1 ∨ 64 < m) :
    Calls Try.prog 9 #[.int .i64 m] w fun e w' => e = .returned (.tuple #[.pointer none, .int .i64 2]) ∧ w = w' := by
  rcases h with h | h
  · go_enter Try.func9, Try.ntmps9
    go_wp2
    go_ret2
    exact ⟨rfl, rfl⟩
  · have h' : ¬ m < 1 := by omega
    go_enter Try.func9, Try.ntmps9
    go_wp2
    go_ret2
    exact ⟨rfl, rfl⟩

def ringZero : Array Value := #[.int .i64 0, .int .i64 0, .int .i64 0, .int .i64 0] ++ ((List.replicate 64 [Value.bool false, .int .i64 0, .slice none 0 0]).flatten).toArray
theorem ringZero_size : ringZero.size = 196 := by kernel_rfl
theorem new_yes (w : World) (m : Nat) (h1 : 1 ≤ m) (h2 : m ≤ 64) :
    Calls Try.prog 9 #[.int .i64 (m : Int)] w fun e w' =>
      e = .returned (.tuple #[.pointer (some ⟨w.heap.size, 0, none⟩), .int .i64 0]) ∧ RingAt w' (fun _ => False) w.heap.size 0 ⟨m, 0, []⟩ ∧ Ext w w' := by
  have g1 : ¬ ((m : Int) < 1) := by omega
  have g2 : ¬ (64 < (m : Int)) := by omega
  have hz : ∀ w, (zeroValue 63).run Try.prog w = .ok (.agg ringZero) w := fun _ => by kernel_rfl
  have hsz := ringZero_size
  go_enter Try.func9, Try.ntmps9
  go_wp2
  go_ret2
  have r0 : ringZero[0]? = some (.int .i64 0) := by kernel_rfl
  have r1 : ringZero[1]? = some (.int .i64 0) := by kernel_rfl
  have r2 : ringZero[2]? = some (.int .i64 0) := by kernel_rfl
  refine ⟨rfl, ⟨fun o => by simp [World.frozen?_alloc_new], fun o ho => ?_, ?_, ?_, ?_, ?_, by simp; omega, h2, by simp, fun i hi => by simp at hi⟩, (Keeps.refl _ _).alloc _⟩
  · simp only [World.cell?_alloc_new]
    exact ⟨_, Array.getElem?_eq_getElem (by simpa [hsz] using ho)⟩
  · simp only [World.cell?_alloc_new]
    rw [Array.getElem?_setIfInBounds_ne (by decide)]; exact r0
  · simp only [World.cell?_alloc_new]
    rw [Array.getElem?_setIfInBounds_ne (by decide)]; exact r1
  · simp only [World.cell?_alloc_new]
    rw [Array.getElem?_setIfInBounds_ne (by decide)]; exact r2
  · simp [World.cell?_alloc_new, hsz]

theorem lost_ring {A : Nat → Prop} (w : World) (b f : Nat) (R : AR) (h : RingAt w A b f R) :
    Calls Try.prog 23 #[.pointer (some ⟨b, 0, none⟩)] w fun e w' => e = .returned (.int .i64 (R.lost : Nat)) ∧ w = w' := by
  have k2 := h.c2
  have HR := Lib.hid h
  clear h
  go_enter Try.func23, Try.ntmps23
  go_wp2_with fail
  refine (none_ring HR.out).mono ?_
  rintro e w' ⟨rfl, rfl⟩
  go_wp2
  go_ret
  exact ⟨rfl, rfl⟩

def Nonish (w : World) (p : Option Addr) : Prop := p = none ∨ ∃ b, p = some ⟨b, 0, none⟩ ∧ w.cell? ⟨b, 3, none⟩ = some (.int .i64 0)
theorem Nonish.keeps {w w' : World} {p : Option Addr} {S : Nat → Prop} (h : Nonish w p) (hk : Keeps S w w') (hs : ∀ b, p = some ⟨b, 0, none⟩ → ¬ S b) : Nonish w' p := by
  rcases h with h | ⟨b, rfl, h⟩
  · exact .inl h
  · exact .inr ⟨b, rfl, hk.cell (hs b rfl) h⟩
theorem Nonish.ext {w w' : World} {p : Option Addr} (h : Nonish w p) (hk : Ext w w') : Nonish w' p := h.keeps hk fun _ _ => noB _
theorem none_none (w : World) (p : Option Addr) (h : Nonish w p) :
    Calls Try.prog 29 #[.pointer p] w fun e w' => e = .returned (.bool true) ∧ w = w' := by
  rcases h with rfl | ⟨b, rfl, h⟩
  · exact none_nil w
  · exact none_zero b w h

theorem lost_none (w : World) (p : Option Addr) (h : Nonish w p) :
    Calls Try.prog 23 #[.pointer p] w fun e w' => e = .returned (.int .i64 0) ∧ w = w' := by
  have H := Lib.hid h
  clear h
  go_enter Try.func23, Try.ntmps23
  go_wp2_with fail
  refine (none_none _ _ H.out).mono ?_
  rintro e w' ⟨rfl, rfl⟩
  go_wp2
  go_ret
  exact ⟨rfl, rfl⟩
theorem put_none {B : Nat → Prop} (w : World) (p : Option Addr) (h : Nonish w p) (x : It) (v : Value) (hv : ItemV w B v x) :
    Calls Try.prog 10 #[.pointer p, v] w fun e w' => e = .returned (.tuple #[.int .i64 0, .int .i64 1]) ∧ Ext w w' := by
  obtain ⟨bv, rfl, hb⟩ := hv
  obtain ⟨a, c, rfl⟩ := hb.len
  have HN := Lib.hid h
  have HB := Lib.hid hb
  clear h hb
  go_enter Try.func10, Try.ntmps10
  go_wp2_with fail
  have ba0 := (((Box.new w 23 [.pointer p]).alloc (Obj.cells #[.bool x.side, .int .i64 x.key, .slice a x.bytes.length c] 31)).alloc (Obj.cells #[.func (.func 28) #[] #[.pointer (some ⟨w.heap.size, 0, none⟩)], .int .i64 1, .func (.func 30) #[] #[], .int .i64 2, .func (.func 31) #[] #[], .int .i64 3] 72))
  have ba1 := ((Box.new (w.alloc (Obj.cells #[.pointer p] 23)) 31 [.bool x.side, .int .i64 x.key, .slice a x.bytes.length c]).alloc (Obj.cells #[.func (.func 28) #[] #[.pointer (some ⟨w.heap.size, 0, none⟩)], .int .i64 1, .func (.func 30) #[] #[], .int .i64 2, .func (.func 31) #[] #[], .int .i64 3] 72))
  have ba2 := (Box.new ((w.alloc (Obj.cells #[.pointer p] 23)).alloc (Obj.cells #[.bool x.side, .int .i64 x.key, .slice a x.bytes.length c] 31)) 72 [.func (.func 28) #[] #[.pointer (some ⟨w.heap.size, 0, none⟩)], .int .i64 1, .func (.func 30) #[] #[], .int .i64 2, .func (.func 31) #[] #[], .int .i64 3])
  have ea : Ext w (((w.alloc (Obj.cells #[.pointer p] 23)).alloc (Obj.cells #[.bool x.side, .int .i64 x.key, .slice a x.bytes.length c] 31)).alloc (Obj.cells #[.func (.func 28) #[] #[.pointer (some ⟨w.heap.size, 0, none⟩)], .int .i64 1, .func (.func 30) #[] #[], .int .i64 2, .func (.func 31) #[] #[], .int .i64 3] 72)) := ((((Keeps.refl NoB w).alloc _).alloc _).alloc _)
  have sa : (((w.alloc (Obj.cells #[.pointer p] 23)).alloc (Obj.cells #[.bool x.side, .int .i64 x.key, .slice a x.bytes.length c] 31)).alloc (Obj.cells #[.func (.func 28) #[] #[.pointer (some ⟨w.heap.size, 0, none⟩)], .int .i64 1, .func (.func 30) #[] #[], .int .i64 2, .func (.func 31) #[] #[], .int .i64 3] 72)).heap.size = w.heap.size + 3 := by simp
  simp only [World.size_alloc] at ba1 ba2
  generalize (((w.alloc (Obj.cells #[.pointer p] 23)).alloc (Obj.cells #[.bool x.side, .int .i64 x.key, .slice a x.bytes.length c] 31)).alloc (Obj.cells #[.func (.func 28) #[] #[.pointer (some ⟨w.heap.size, 0, none⟩)], .int .i64 1, .func (.func 30) #[] #[], .int .i64 2, .func (.func 31) #[] #[], .int .i64 3] 72)) = w0 at ba0 ba1 ba2 ea sa ⊢
  have Sa := Lib.hid sa
  clear sa
  obtain ⟨c0, _⟩ := ba0.reads
  obtain ⟨c1, _⟩ := ba1.reads
  obtain ⟨c2, _⟩ := ba2.reads
  have hb0 := ba0.lt
  have hb1 := ba1.lt
  have hb2 := ba2.lt
  have HE := Lib.hid ea
  clear ba0 ba1 ba2 ea
  refine wp_loop_rounds 1 ?_
  rw [rounds_succ]
  go_wp2_with fail
  refine (c28_any (A := B) _ w.heap.size p true x _ (by simp [go_sem, c0, hb0]) ⟨_, rfl, (HB.out.ext HE.out).ext ((Keeps.refl _ _).alloc _)⟩ (fun W' he => none_none _ _ ((HN.out.ext HE.out).ext (((Keeps.refl _ _).alloc _).ext he)))).mono ?_
  rintro e W1 ⟨rfl, hW1⟩
  have bf := (Box.new w0 72 [.func (.func 28) #[] #[.pointer (some ⟨w.heap.size, 0, none⟩)], .int .i64 1]).ext hW1
  obtain ⟨cf, _⟩ := bf.reads
  have hbf := bf.lt
  have HE1 := Lib.hid (((Keeps.alloc HE.out _)).ext hW1)
  clear hW1 bf
  go_wp2_with fail
  have hE0 : Keeps NoB W1 W1.drew := (Keeps.refl _ _).drew
  refine wp_region_plan [(0, 0), (3, 1), (0, 2), (0, 3)] [] [] [] (ClsE W1) (by kernel_rfl) (by kernel_rfl) (by kernel_rfl) rfl rfl (ClsE.of hE0) (fun _ _ _ d _ h => by cases d <;> exact h) ?_; simp only [planL, List.getElem?_toArray, List.getElem?_cons_succ, List.getElem?_cons_zero]
  refine plan_pure rfl (fun K hK => quiet_run (v := ?_) (fun W _ => ?_) (hK _ ?_)); rotate_left; (go_simp <;> with_reducible rfl); clear hK K; simp only [Act.put, List.setIfInBounds_toArray, List.set_cons_zero, List.set_cons_succ]
  refine plan_exact rfl (fun K hK => quiet_runX (v := ?_) ?_ (hK _ ?_)); rotate_left; (go_simp <;> with_reducible rfl); clear hK K; simp only [Act.put, List.setIfInBounds_toArray, List.set_cons_zero, List.set_cons_succ]
  refine plan_pure rfl (fun K hK => quiet_assign' _ rfl (hK _ ?_)); clear hK K; simp only [Act.put, Act.eval, List.setIfInBounds_toArray, List.set_cons_zero, List.set_cons_succ]
  refine plan_pure rfl (fun K hK => quiet_assign' _ rfl (hK _ ?_)); clear hK K; simp only [Act.put, Act.eval, Array.getD_eq_getD_getElem?, List.getElem?_toArray, List.getElem?_cons_zero, List.getElem?_cons_succ, Option.getD_some, List.setIfInBounds_toArray, List.set_cons_zero, List.set_cons_succ]
  refine plan_nil ?_; simp only [tailL, List.filterMap_nil]
  go_wp2_with fail
  go_ret2
  exact ⟨rfl, HE1.out.ext hE0⟩
end Go.Proofs.Ytocjnieehogcbaa
