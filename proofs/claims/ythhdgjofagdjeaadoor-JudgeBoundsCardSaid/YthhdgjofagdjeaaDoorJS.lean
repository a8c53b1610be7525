/- What a judge does with a thing seen: a member went. Condition: the judge lies as 'JudgeAt' says; the member is one of sixteen. -/
import Derived.Test.YthhdgjofagdjeaaDoorJR
set_option linter.unusedVariables false
set_option linter.unusedSimpArgs false
set_option maxHeartbeats 1000000
set_option maxRecDepth 10000
namespace Go.Proofs.YthhdgjofagdjeaaDoor
open Go.RowKit

structure Sn where
  kind : Int
  who : Int
  index : Int
  e : En
def Sn.v (x : Sn) : Value := .agg #[.int .i64 x.kind, .int .i64 x.who, .int .i64 x.index, .int .i64 x.e.kind, .int .i64 x.e.member, .int .i64 x.e.number, .string (bs x.e.text)]
theorem JudgeAt.next {w : World} {F Ft : Nat → Prop} {b tb mb : Nat} {J : JA} (h : JudgeAt w F Ft b tb mb J) (p : Nat) (hp : p < 16) : w.cell? ⟨b, 9 + p, none⟩ = some (.int .i64 (J.next.getD p 0)) := by
  have h1 := (J.at tb mb h.l9 h.l16).2.1 p hp
  rw [h.box.reads.1, h1, List.getD_eq_getElem?_getD, List.getElem?_eq_getElem (by have := h.l16; omega)]
  rfl
theorem JudgeAt.putNext {w : World} {F Ft : Nat → Prop} {b tb mb : Nat} {J : JA} (h : JudgeAt w F Ft b tb mb J) (p : Nat) (hp : p < 16) (n : Int) : JudgeAt (w.setCell ⟨b, 9 + p, none⟩ (.int .i64 n)) F Ft b tb mb { J with next := J.next.set p n } := by
  have hk : Keeps (OneB b) w (w.setCell ⟨b, 9 + p, none⟩ (.int .i64 n)) := (Keeps.refl _ _).setOne _ _
  have hb := h.box.set (9 + p) (.int .i64 n)
  have a1 : (J.told.map iV).length = 9 := by rw [List.length_map, h.l9]
  have a2 : (J.next.map iV).length = 16 := by rw [List.length_map, h.l16]
  have e : (J.cells tb mb).set (9 + p) (.int .i64 n) = ({ J with next := J.next.set p n } : JA).cells tb mb := by
    unfold JA.cells
    rw [List.set_append_right _ _ (by omega), a1, show 9 + p - 9 = p by omega, List.set_append_left _ _ (by omega), List.map_set]
    rfl
  rw [e] at hb
  exact { h with box := hb, talk := h.talk.keeps hk (fun k hF h9 => h.nb (by have h8 : k = b := h9; rw [← h8]; exact hF)), map := h.map.keeps hk (fun h9 => h.bm (Eq.symm h9)), lt := fun k hF => Nat.lt_of_lt_of_le (h.lt k hF) hk.size, l16 := by simpa using h.l16 }
theorem went_bad {F : Nat → Prop} (w : World) (b : Nat) (J : JA) (kind : Int) (p : Nat) (index : Int) (e : En) (h : JudgeX w F b J) (hp : p < 16) (hle : ¬ index ≤ J.next.getD p 0) :
    Calls Tryd.prog 53 #[.pointer (some ⟨b, 0, none⟩), (⟨kind, p, index, e⟩ : Sn).v] w fun r w' => r = .panicked [{ v := .iface 22 (.int .i64 403), recovered := false }] ∧ Ext w w' := by
  have HX := Lib.hid h
  have HP := Lib.hid hp
  have HD := Lib.hid (decide_eq_false hle)
  clear h hle
  obtain ⟨n, hn⟩ : ∃ n, J.next.getD p 0 = n := ⟨_, rfl⟩
  rw [hn] at HD
  have HN := Lib.hid hn
  clear hn
  unfold Sn.v
  go_enter Tryd.func53, Tryd.ntmps53
  go_wp2_with fail
  have bx0 := (Box.new w 37 [.int .i64 kind, .int .i64 (p : Int), .int .i64 index, .int .i64 e.kind, .int .i64 e.member, .int .i64 e.number, .string (bs e.text)])
  have ex : Ext w (w.alloc (Obj.cells #[.int .i64 kind, .int .i64 (p : Int), .int .i64 index, .int .i64 e.kind, .int .i64 e.member, .int .i64 e.number, .string (bs e.text)] 37)) := ((Keeps.refl NoB w).alloc _)
  have sx : (w.alloc (Obj.cells #[.int .i64 kind, .int .i64 (p : Int), .int .i64 index, .int .i64 e.kind, .int .i64 e.member, .int .i64 e.number, .string (bs e.text)] 37)).heap.size = w.heap.size + 1 := by simp
  generalize (w.alloc (Obj.cells #[.int .i64 kind, .int .i64 (p : Int), .int .i64 index, .int .i64 e.kind, .int .i64 e.member, .int .i64 e.number, .string (bs e.text)] 37)) = w0 at bx0 ex sx ⊢
  have Sx := Lib.hid sx
  clear sx
  have BX := Lib.hid bx0
  have HE := Lib.hid ex
  obtain ⟨Ft, tb, mb, hat⟩ := HX.out.ext ex
  have cn := hat.next p hp
  rw [HN.out] at cn
  have lt := hat.box.lt
  have g1 : (p : Int) < 16 := by omega
  have g2 : ¬ (p : Int) < 0 := by omega
  clear bx0 ex hat hp
  obtain ⟨cBX, zBX⟩ := BX.out.reads
  have lBX := BX.out.lt
  have hE0 : Keeps NoB w0 w0.drew := (Keeps.refl _ _).drew
  refine wp_region_plan [(0, 0), (3, 1), (0, 2), (0, 3), (3, 4), (0, 5), (0, 6), (0, 7), (0, 8), (3, 9), (0, 10)] [] [11, 12] [11, 12] (ClsE w0) (by kernel_rfl) (by kernel_rfl) (by kernel_rfl) rfl rfl (ClsE.of hE0) (fun _ _ _ d _ h => by cases d <;> exact h) ?_; simp only [planL, List.getElem?_toArray, List.getElem?_cons_succ, List.getElem?_cons_zero]
  refine plan_pure rfl (fun K hK => quiet_run (v := ?_) (fun W _ => ?_) (hK _ ?_)); rotate_left; (go_simp <;> with_reducible rfl); clear hK K; simp only [Act.put, List.setIfInBounds_toArray, List.set_cons_zero, List.set_cons_succ]
  refine plan_exact rfl (fun K hK => quiet_runX (v := ?_) ?_ (hK _ ?_)); rotate_left; (go_simp <;> with_reducible rfl); clear hK K; simp only [Act.put, List.setIfInBounds_toArray, List.set_cons_zero, List.set_cons_succ]
  refine plan_pure rfl (fun K hK => quiet_move' _ rfl (hK _ ?_)); clear hK K; simp only [Act.put, Act.eval, Array.getD_eq_getD_getElem?, List.getElem?_toArray, List.getElem?_cons_zero, Option.getD_some, List.setIfInBounds_toArray, List.set_cons_zero, List.set_cons_succ]
  refine plan_pure rfl (fun K hK => quiet_run (v := ?_) (fun W _ => ?_) (hK _ ?_)); rotate_left; (go_simp <;> with_reducible rfl); clear hK K; simp only [Act.put, List.setIfInBounds_toArray, List.set_cons_zero, List.set_cons_succ]
  refine plan_exact rfl (fun K hK => quiet_runX (v := ?_) ?_ (hK _ ?_)); rotate_left; (go_simp <;> with_reducible rfl); clear hK K; simp only [Act.put, List.setIfInBounds_toArray, List.set_cons_zero, List.set_cons_succ]
  refine plan_pure rfl (fun K hK => quiet_run (v := ?_) (fun W _ => ?_) (hK _ ?_)); rotate_left; (go_simp <;> with_reducible rfl); clear hK K; simp only [Act.put, List.setIfInBounds_toArray, List.set_cons_zero, List.set_cons_succ]
  refine plan_pure rfl (fun K hK => quiet_run (v := ?_) (fun W _ => ?_) (hK _ ?_)); rotate_left; (go_simp <;> with_reducible rfl); clear hK K; simp only [Act.put, List.setIfInBounds_toArray, List.set_cons_zero, List.set_cons_succ]
  refine plan_pure rfl (fun K hK => quiet_run (v := ?_) (fun W _ => ?_) (hK _ ?_)); rotate_left; (go_simp <;> with_reducible rfl); clear hK K; simp only [Act.put, List.setIfInBounds_toArray, List.set_cons_zero, List.set_cons_succ]
  refine plan_pure rfl (fun K hK => quiet_run (v := ?_) (fun W _ => ?_) (hK _ ?_)); rotate_left; (go_simp <;> with_reducible rfl); clear hK K; simp only [Act.put, List.setIfInBounds_toArray, List.set_cons_zero, List.set_cons_succ]
  refine plan_exact rfl (fun K hK => quiet_runX (v := ?_) ?_ (hK _ ?_)); rotate_left; (go_simp <;> with_reducible rfl); clear hK K; simp only [Act.put, List.setIfInBounds_toArray, List.set_cons_zero, List.set_cons_succ]
  refine plan_pure rfl (fun K hK => quiet_run (v := ?_) (fun W _ => ?_) (hK _ ?_)); rotate_left; (go_simp <;> with_reducible rfl); clear hK K; simp only [Act.put, List.setIfInBounds_toArray, List.set_cons_zero, List.set_cons_succ]
  refine plan_nil ?_; simp only [tailL, List.filterMap_cons, List.filterMap_nil, List.getElem?_toArray, List.getElem?_cons_succ, List.getElem?_cons_zero]; change wpList _ _ _ (_ :: _ :: []) _ _
  clear cBX zBX lBX
  go_wp2_with fail
  have by0 := (Box.new w0 4 [.bool (decide (index ≤ n))])
  have ey : Ext w0 (w0.alloc (Obj.cells #[.bool (decide (index ≤ n))] 4)) := ((Keeps.refl NoB w0).alloc _)
  have sy : (w0.alloc (Obj.cells #[.bool (decide (index ≤ n))] 4)).heap.size = w0.heap.size + 1 := by simp
  generalize (w0.alloc (Obj.cells #[.bool (decide (index ≤ n))] 4)) = w1 at by0 ey sy ⊢
  have Sy := Lib.hid sy
  clear sy
  rw [HD.out] at by0
  have HE1 := Lib.hid ((HE.out.ext ey).drew)
  refine (must_bad_1 w1.drew _ 403 false true by0.drew rfl).mono ?_
  rintro r w2 ⟨rfl, rfl⟩
  clear ey by0
  go_wp2_with fail
  exact ⟨rfl, rfl, HE1.out⟩
theorem went_ok {F : Nat → Prop} (w : World) (b : Nat) (J : JA) (kind : Int) (p : Nat) (index : Int) (e : En) (h : JudgeX w F b J) (hp : p < 16) (hle : index ≤ J.next.getD p 0) :
    Calls Tryd.prog 53 #[.pointer (some ⟨b, 0, none⟩), (⟨kind, p, index, e⟩ : Sn).v] w fun r w' => r = .returned (.tuple #[]) ∧ JudgeX w' F b { J with next := J.next.set p index } ∧ Keeps F w w' := by
  have HX := Lib.hid h
  have HP := Lib.hid hp
  have HD := Lib.hid (decide_eq_true hle)
  clear h hle
  obtain ⟨n, hn⟩ : ∃ n, J.next.getD p 0 = n := ⟨_, rfl⟩
  rw [hn] at HD
  have HN := Lib.hid hn
  clear hn
  unfold Sn.v
  go_enter Tryd.func53, Tryd.ntmps53
  go_wp2_with fail
  have bx0 := (Box.new w 37 [.int .i64 kind, .int .i64 (p : Int), .int .i64 index, .int .i64 e.kind, .int .i64 e.member, .int .i64 e.number, .string (bs e.text)])
  have ex : Ext w (w.alloc (Obj.cells #[.int .i64 kind, .int .i64 (p : Int), .int .i64 index, .int .i64 e.kind, .int .i64 e.member, .int .i64 e.number, .string (bs e.text)] 37)) := ((Keeps.refl NoB w).alloc _)
  have sx : (w.alloc (Obj.cells #[.int .i64 kind, .int .i64 (p : Int), .int .i64 index, .int .i64 e.kind, .int .i64 e.member, .int .i64 e.number, .string (bs e.text)] 37)).heap.size = w.heap.size + 1 := by simp
  generalize (w.alloc (Obj.cells #[.int .i64 kind, .int .i64 (p : Int), .int .i64 index, .int .i64 e.kind, .int .i64 e.member, .int .i64 e.number, .string (bs e.text)] 37)) = w0 at bx0 ex sx ⊢
  have Sx := Lib.hid sx
  clear sx
  have BX := Lib.hid bx0
  have HE := Lib.hid ex
  obtain ⟨Ft, tb, mb, hat⟩ := HX.out.ext ex
  have HAT := Lib.hid hat
  have HFB := Lib.hid hat.fb
  have HLT := Lib.hid (let ⟨_, _, _, h⟩ := HX.out; h.lt b h.fb)
  have cn := hat.next p hp
  rw [HN.out] at cn
  have lt := hat.box.lt
  have g1 : (p : Int) < 16 := by omega
  have g2 : ¬ (p : Int) < 0 := by omega
  clear bx0 ex hat hp
  obtain ⟨cBX, zBX⟩ := BX.out.reads
  have lBX := BX.out.lt
  have hE0 : Keeps NoB w0 w0.drew := (Keeps.refl _ _).drew
  refine wp_region_plan [(0, 0), (3, 1), (0, 2), (0, 3), (3, 4), (0, 5), (0, 6), (0, 7), (0, 8), (3, 9), (0, 10)] [] [11, 12] [11, 12] (ClsE w0) (by kernel_rfl) (by kernel_rfl) (by kernel_rfl) rfl rfl (ClsE.of hE0) (fun _ _ _ d _ h => by cases d <;> exact h) ?_; simp only [planL, List.getElem?_toArray, List.getElem?_cons_succ, List.getElem?_cons_zero]
  refine plan_pure rfl (fun K hK => quiet_run (v := ?_) (fun W _ => ?_) (hK _ ?_)); rotate_left; (go_simp <;> with_reducible rfl); clear hK K; simp only [Act.put, List.setIfInBounds_toArray, List.set_cons_zero, List.set_cons_succ]
  refine plan_exact rfl (fun K hK => quiet_runX (v := ?_) ?_ (hK _ ?_)); rotate_left; (go_simp <;> with_reducible rfl); clear hK K; simp only [Act.put, List.setIfInBounds_toArray, List.set_cons_zero, List.set_cons_succ]
  refine plan_pure rfl (fun K hK => quiet_move' _ rfl (hK _ ?_)); clear hK K; simp only [Act.put, Act.eval, Array.getD_eq_getD_getElem?, List.getElem?_toArray, List.getElem?_cons_zero, Option.getD_some, List.setIfInBounds_toArray, List.set_cons_zero, List.set_cons_succ]
  refine plan_pure rfl (fun K hK => quiet_run (v := ?_) (fun W _ => ?_) (hK _ ?_)); rotate_left; (go_simp <;> with_reducible rfl); clear hK K; simp only [Act.put, List.setIfInBounds_toArray, List.set_cons_zero, List.set_cons_succ]
  refine plan_exact rfl (fun K hK => quiet_runX (v := ?_) ?_ (hK _ ?_)); rotate_left; (go_simp <;> with_reducible rfl); clear hK K; simp only [Act.put, List.setIfInBounds_toArray, List.set_cons_zero, List.set_cons_succ]
  refine plan_pure rfl (fun K hK => quiet_run (v := ?_) (fun W _ => ?_) (hK _ ?_)); rotate_left; (go_simp <;> with_reducible rfl); clear hK K; simp only [Act.put, List.setIfInBounds_toArray, List.set_cons_zero, List.set_cons_succ]
  refine plan_pure rfl (fun K hK => quiet_run (v := ?_) (fun W _ => ?_) (hK _ ?_)); rotate_left; (go_simp <;> with_reducible rfl); clear hK K; simp only [Act.put, List.setIfInBounds_toArray, List.set_cons_zero, List.set_cons_succ]
  refine plan_pure rfl (fun K hK => quiet_run (v := ?_) (fun W _ => ?_) (hK _ ?_)); rotate_left; (go_simp <;> with_reducible rfl); clear hK K; simp only [Act.put, List.setIfInBounds_toArray, List.set_cons_zero, List.set_cons_succ]
  refine plan_pure rfl (fun K hK => quiet_run (v := ?_) (fun W _ => ?_) (hK _ ?_)); rotate_left; (go_simp <;> with_reducible rfl); clear hK K; simp only [Act.put, List.setIfInBounds_toArray, List.set_cons_zero, List.set_cons_succ]
  refine plan_exact rfl (fun K hK => quiet_runX (v := ?_) ?_ (hK _ ?_)); rotate_left; (go_simp <;> with_reducible rfl); clear hK K; simp only [Act.put, List.setIfInBounds_toArray, List.set_cons_zero, List.set_cons_succ]
  refine plan_pure rfl (fun K hK => quiet_run (v := ?_) (fun W _ => ?_) (hK _ ?_)); rotate_left; (go_simp <;> with_reducible rfl); clear hK K; simp only [Act.put, List.setIfInBounds_toArray, List.set_cons_zero, List.set_cons_succ]
  refine plan_nil ?_; simp only [tailL, List.filterMap_cons, List.filterMap_nil, List.getElem?_toArray, List.getElem?_cons_succ, List.getElem?_cons_zero]; change wpList _ _ _ (_ :: _ :: []) _ _
  clear cBX zBX lBX
  go_wp2_with fail
  have by0 := (Box.new w0 4 [.bool (decide (index ≤ n))])
  have ey : Ext w0 (w0.alloc (Obj.cells #[.bool (decide (index ≤ n))] 4)) := ((Keeps.refl NoB w0).alloc _)
  have sy : (w0.alloc (Obj.cells #[.bool (decide (index ≤ n))] 4)).heap.size = w0.heap.size + 1 := by simp
  generalize (w0.alloc (Obj.cells #[.bool (decide (index ≤ n))] 4)) = w1 at by0 ey sy ⊢
  have Sy := Lib.hid sy
  clear sy
  rw [HD.out] at by0
  have e01 : Ext w0 w1.drew := ey.drew
  replace HE := Lib.hid (HE.out.ext e01)
  replace HAT := Lib.hid (HAT.out.keeps e01 fun _ _ => noB _)
  replace BX := Lib.hid (BX.out.ext e01)
  refine (must_ok_1 w1.drew _ 403 true true by0.drew rfl).mono ?_
  rintro r w2 ⟨rfl, rfl⟩
  clear ey by0 e01 cn lt
  generalize w1.drew = w2 at HE HAT BX ⊢
  have cn := HAT.out.next p HP.out
  have lt := HAT.out.box.lt
  have zz := HAT.out.box.reads.2
  have n0 : ¬ OneB b w.heap.size := by have := HLT.out; unfold OneB; omega
  obtain ⟨cBX, zBX⟩ := BX.out.reads
  have lBX := BX.out.lt
  go_wp2_with fail
  have hE0 : Keeps (OneB b) w2 w2.drew := (Keeps.refl _ _).drew
  refine wp_region_plan [(0, 0), (0, 1), (3, 2), (0, 3), (3, 4), (0, 5), (0, 6), (0, 7), (0, 8)] [] [9] [9] (ClsK (OneB b) w2) (by kernel_rfl) (by kernel_rfl) (by kernel_rfl) rfl rfl (ClsK.of hE0) (fun _ _ _ d _ h => by cases d <;> exact h) ?_; simp only [planL, List.getElem?_toArray, List.getElem?_cons_succ, List.getElem?_cons_zero]
  refine plan_pure rfl (fun K hK => quiet_move' _ rfl (hK _ ?_)); clear hK K; simp only [Act.put, Act.eval, Array.getD_eq_getD_getElem?, List.getElem?_toArray, List.getElem?_cons_zero, Option.getD_some, List.setIfInBounds_toArray, List.set_cons_zero, List.set_cons_succ]
  refine plan_pure rfl (fun K hK => quiet_run (v := ?_) (fun W _ => ?_) (hK _ ?_)); rotate_left; (go_simp <;> with_reducible rfl); clear hK K; simp only [Act.put, List.setIfInBounds_toArray, List.set_cons_zero, List.set_cons_succ]
  refine plan_exact rfl (fun K hK => quiet_runX (v := ?_) ?_ (hK _ ?_)); rotate_left; (go_simp <;> with_reducible rfl); clear hK K; simp only [Act.put, List.setIfInBounds_toArray, List.set_cons_zero, List.set_cons_succ]
  refine plan_pure rfl (fun K hK => quiet_run (v := ?_) (fun W _ => ?_) (hK _ ?_)); rotate_left; (go_simp <;> with_reducible rfl); clear hK K; simp only [Act.put, List.setIfInBounds_toArray, List.set_cons_zero, List.set_cons_succ]
  refine plan_exact rfl (fun K hK => quiet_runX (v := ?_) ?_ (hK _ ?_)); rotate_left; (go_simp <;> with_reducible rfl); clear hK K; simp only [Act.put, List.setIfInBounds_toArray, List.set_cons_zero, List.set_cons_succ]
  refine plan_pure rfl (fun K hK => quiet_run (v := ?_) (fun W _ => ?_) (hK _ ?_)); rotate_left; (go_simp <;> with_reducible rfl); clear hK K; simp only [Act.put, List.setIfInBounds_toArray, List.set_cons_zero, List.set_cons_succ]
  refine plan_pure rfl (fun K hK => quiet_run (v := ?_) (fun W _ => ?_) (hK _ ?_)); rotate_left; (go_simp <;> with_reducible rfl); clear hK K; simp only [Act.put, List.setIfInBounds_toArray, List.set_cons_zero, List.set_cons_succ]
  refine plan_pure rfl (fun K hK => quiet_run (v := ?_) (fun W _ => ?_) (hK _ ?_)); rotate_left; (go_simp <;> with_reducible rfl); clear hK K; simp only [Act.put, List.setIfInBounds_toArray, List.set_cons_zero, List.set_cons_succ]
  refine plan_pure rfl (fun K hK => quiet_run (v := ?_) (fun W _ => ?_) (hK _ ?_)); rotate_left; (go_simp <;> with_reducible rfl); clear hK K; simp only [Act.put, List.setIfInBounds_toArray, List.set_cons_zero, List.set_cons_succ]
  refine plan_nil ?_; simp only [tailL, List.filterMap_cons, List.filterMap_nil, List.getElem?_toArray, List.getElem?_cons_succ, List.getElem?_cons_zero]; change wpList _ _ _ (_ :: []) _ _
  clear cBX zBX lBX
  go_wp2_with fail
  go_end0
  have hk : Keeps (OneB b) w2 (w2.setCell ⟨b, 9 + p, none⟩ (.int .i64 index)) := (Keeps.refl _ _).setOne _ _
  have hat := (HAT.out.putNext p HP.out index).keeps (S := NoB) ((Keeps.refl _ _).drew) (fun _ _ => noB _)
  exact ⟨rfl, ⟨Ft, tb, mb, hat⟩, ((Ext.keeps HE.out).then hk (fun i hi h => by obtain rfl : i = b := h; exact HFB.out)).drew⟩
end Go.Proofs.YthhdgjofagdjeaaDoor
