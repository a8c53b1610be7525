/- What a judge does with a thing seen: a place went back. Condition: the judge lies as 'JudgeAt' says; the place is one of nine. -/
import Derived.Test.YthhdgjofagdjeaaDoorJS
set_option linter.unusedVariables false
set_option linter.unusedSimpArgs false
set_option maxHeartbeats 1000000
set_option maxRecDepth 10000
namespace Go.Proofs.YthhdgjofagdjeaaDoor
open Go.RowKit

theorem JudgeAt.toldAt {w : World} {F Ft : Nat → Prop} {b tb mb : Nat} {J : JA} (h : JudgeAt w F Ft b tb mb J) (p : Nat) (hp : p < 9) : w.cell? ⟨b, p, none⟩ = some (.int .i64 (J.told.getD p 0)) := by
  have h1 := (J.at tb mb h.l9 h.l16).1 p hp
  rw [h.box.reads.1, h1, List.getD_eq_getElem?_getD, List.getElem?_eq_getElem (by have := h.l9; omega)]
  rfl
theorem JudgeAt.putTold {w : World} {F Ft : Nat → Prop} {b tb mb : Nat} {J : JA} (h : JudgeAt w F Ft b tb mb J) (p : Nat) (hp : p < 9) (n : Int) : JudgeAt (w.setCell ⟨b, p, none⟩ (.int .i64 n)) F Ft b tb mb { J with told := J.told.set p n } := by
  have hk : Keeps (OneB b) w (w.setCell ⟨b, p, none⟩ (.int .i64 n)) := (Keeps.refl _ _).setOne _ _
  have hb := h.box.set p (.int .i64 n)
  have a1 : (J.told.map iV).length = 9 := by rw [List.length_map, h.l9]
  have e : (J.cells tb mb).set p (.int .i64 n) = ({ J with told := J.told.set p n } : JA).cells tb mb := by
    unfold JA.cells
    rw [List.set_append_left _ _ (by omega), List.map_set]
    rfl
  rw [e] at hb
  exact { h with box := hb, talk := h.talk.keeps hk (fun k hF h9 => h.nb (by have h8 : k = b := h9; rw [← h8]; exact hF)), map := h.map.keeps hk (fun h9 => h.bm (Eq.symm h9)), lt := fun k hF => Nat.lt_of_lt_of_le (h.lt k hF) hk.size, l9 := by simpa using h.l9 }
theorem back_short {F : Nat → Prop} (w : World) (b : Nat) (J : JA) (kind : Int) (p : Nat) (index : Int) (e : En) (h : JudgeX w F b J) (hp : p < 9) (hle : ¬ J.told.getD p 0 ≤ index) :
    Calls Tryd.prog 50 #[.pointer (some ⟨b, 0, none⟩), (⟨kind, p, index, e⟩ : Sn).v] w fun r w' => r = .panicked [{ v := .iface 22 (.int .i64 404), recovered := false }] ∧ Ext w w' := by
  have HX := Lib.hid h
  have HP := Lib.hid hp
  have HD := Lib.hid (decide_eq_false hle)
  clear h hle
  obtain ⟨n, hn⟩ : ∃ n, J.told.getD p 0 = n := ⟨_, rfl⟩
  rw [hn] at HD
  have HN := Lib.hid hn
  clear hn
  unfold Sn.v
  go_enter Tryd.func50, Tryd.ntmps50
  go_wp2_with fail
  have bx0 := (Box.new w 37 [.int .i64 kind, .int .i64 (p : Int), .int .i64 index, .int .i64 e.kind, .int .i64 e.member, .int .i64 e.number, .string (bs e.text)])
  have ex : Ext w (w.alloc (Obj.cells #[.int .i64 kind, .int .i64 (p : Int), .int .i64 index, .int .i64 e.kind, .int .i64 e.member, .int .i64 e.number, .string (bs e.text)] 37)) := ((Keeps.refl NoB w).alloc _)
  have sx : (w.alloc (Obj.cells #[.int .i64 kind, .int .i64 (p : Int), .int .i64 index, .int .i64 e.kind, .int .i64 e.member, .int .i64 e.number, .string (bs e.text)] 37)).heap.size = w.heap.size + 1 := by simp
  generalize (w.alloc (Obj.cells #[.int .i64 kind, .int .i64 (p : Int), .int .i64 index, .int .i64 e.kind, .int .i64 e.member, .int .i64 e.number, .string (bs e.text)] 37)) = w0 at bx0 ex sx ⊢
  have Sx := Lib.hid sx
  clear sx
  have BX := Lib.hid bx0
  have HE := Lib.hid ex
  obtain ⟨Ft, tb, mb, hat⟩ := HX.out.ext ex
  have HAT := Lib.hid hat
  have HFB := Lib.hid hat.fb
  have HLT := Lib.hid (let ⟨_, _, _, h⟩ := HX.out; h.lt b h.fb)
  have cn := hat.toldAt p hp
  rw [HN.out] at cn
  have lt := hat.box.lt
  have g1 : (p : Int) < 9 := by omega
  have g2 : ¬ (p : Int) < 0 := by omega
  clear bx0 ex hat hp
  obtain ⟨cBX, zBX⟩ := BX.out.reads
  have lBX := BX.out.lt
  have hE0 : Keeps NoB w0 w0.drew := (Keeps.refl _ _).drew
  refine wp_region_plan [(0, 0), (3, 1), (0, 2), (0, 3), (3, 4), (0, 5), (0, 6), (0, 7), (0, 8), (3, 9), (0, 10)] [] [11, 12] [11, 12] (ClsE w0) (by kernel_rfl) (by kernel_rfl) (by kernel_rfl) rfl rfl (ClsE.of hE0) (fun _ _ _ d _ h => by cases d <;> exact h) ?_; simp only [planL, List.getElem?_toArray, List.getElem?_cons_succ, List.getElem?_cons_zero]
  refine plan_pure rfl (fun K hK => quiet_run (v := ?_) (fun W _ => ?_) (hK _ ?_)); rotate_left; (go_simp <;> with_reducible rfl); clear hK K; simp only [Act.put, List.setIfInBounds_toArray, List.set_cons_zero, List.set_cons_succ]
  refine plan_exact rfl (fun K hK => quiet_runX (v := ?_) ?_ (hK _ ?_)); rotate_left; (go_simp <;> with_reducible rfl); clear hK K; simp only [Act.put, List.setIfInBounds_toArray, List.set_cons_zero, List.set_cons_succ]
  refine plan_pure rfl (fun K hK => quiet_move' _ rfl (hK _ ?_)); clear hK K; simp only [Act.put, Act.eval, Array.getD_eq_getD_getElem?, List.getElem?_toArray, List.getElem?_cons_zero, Option.getD_some, List.setIfInBounds_toArray, List.set_cons_zero, List.set_cons_succ]
  refine plan_pure rfl (fun K hK => quiet_run (v := ?_) (fun W _ => ?_) (hK _ ?_)); rotate_left; (go_simp <;> with_reducible rfl); clear hK K; simp only [Act.put, List.setIfInBounds_toArray, List.set_cons_zero, List.set_cons_succ]
  refine plan_exact rfl (fun K hK => quiet_runX (v := ?_) ?_ (hK _ ?_)); rotate_left; (go_simp <;> with_reducible rfl); clear hK K; simp only [Act.put, List.setIfInBounds_toArray, List.set_cons_zero, List.set_cons_succ]
  refine plan_pure rfl (fun K hK => quiet_run (v := ?_) (fun W _ => ?_) (hK _ ?_)); rotate_left; (go_simp <;> with_reducible rfl); clear hK K; simp only [Act.put, List.setIfInBounds_toArray, List.set_cons_zero, List.set_cons_succ]
  refine plan_pure rfl (fun K hK => quiet_run (v := ?_) (fun W _ => ?_) (hK _ ?_)); rotate_left; (go_simp <;> with_reducible rfl); clear hK K; simp only [Act.put, List.setIfInBounds_toArray, List.set_cons_zero, List.set_cons_succ]
  refine plan_pure rfl (fun K hK => quiet_run (v := ?_) (fun W _ => ?_) (hK _ ?_)); rotate_left; (go_simp <;> with_reducible rfl); clear hK K; simp only [Act.put, List.setIfInBounds_toArray, List.set_cons_zero, List.set_cons_succ]
  refine plan_pure rfl (fun K hK => quiet_run (v := ?_) (fun W _ => ?_) (hK _ ?_)); rotate_left; (go_simp <;> with_reducible rfl); clear hK K; simp only [Act.put, List.setIfInBounds_toArray, List.set_cons_zero, List.set_cons_succ]
  refine plan_exact rfl (fun K hK => quiet_runX (v := ?_) ?_ (hK _ ?_)); rotate_left; (go_simp <;> with_reducible rfl); clear hK K; simp only [Act.put, List.setIfInBounds_toArray, List.set_cons_zero, List.set_cons_succ]
  refine plan_pure rfl (fun K hK => quiet_run (v := ?_) (fun W _ => ?_) (hK _ ?_)); rotate_left; (go_simp <;> with_reducible rfl); clear hK K; simp only [Act.put, List.setIfInBounds_toArray, List.set_cons_zero, List.set_cons_succ]
  refine plan_nil ?_; simp only [tailL, List.filterMap_cons, List.filterMap_nil, List.getElem?_toArray, List.getElem?_cons_succ, List.getElem?_cons_zero]; change wpList _ _ _ (_ :: _ :: []) _ _
  clear cBX zBX lBX
  go_wp2_with fail
  have by0 := (Box.new w0 4 [.bool (decide (n ≤ index))])
  have ey : Ext w0 (w0.alloc (Obj.cells #[.bool (decide (n ≤ index))] 4)) := ((Keeps.refl NoB w0).alloc _)
  have sy : (w0.alloc (Obj.cells #[.bool (decide (n ≤ index))] 4)).heap.size = w0.heap.size + 1 := by simp
  generalize (w0.alloc (Obj.cells #[.bool (decide (n ≤ index))] 4)) = w1 at by0 ey sy ⊢
  have Sy := Lib.hid sy
  clear sy
  rw [HD.out] at by0
  have HE1 := Lib.hid ((HE.out.ext ey).drew)
  refine (must_bad_1 w1.drew _ 404 false true by0.drew rfl).mono ?_
  rintro r w2 ⟨rfl, rfl⟩
  clear ey by0
  go_wp2_with fail
  exact ⟨rfl, rfl, HE1.out⟩
theorem back_skip {F : Nat → Prop} (w : World) (b : Nat) (J : JA) (kind : Int) (p : Nat) (index : Int) (e : En) (h : JudgeX w F b J) (hp : p < 9) (hle : J.told.getD p 0 ≤ index) (hle2 : ¬ index ≤ J.T.l.length) :
    Calls Tryd.prog 50 #[.pointer (some ⟨b, 0, none⟩), (⟨kind, p, index, e⟩ : Sn).v] w fun r w' => r = .panicked [{ v := .iface 22 (.int .i64 403), recovered := false }] ∧ Ext w w' := by
  have HD2 := Lib.hid (decide_eq_false hle2)
  clear hle2
  have HX := Lib.hid h
  have HP := Lib.hid hp
  have HD := Lib.hid (decide_eq_true hle)
  clear h hle
  obtain ⟨n, hn⟩ : ∃ n, J.told.getD p 0 = n := ⟨_, rfl⟩
  rw [hn] at HD
  have HN := Lib.hid hn
  clear hn
  unfold Sn.v
  go_enter Tryd.func50, Tryd.ntmps50
  go_wp2_with fail
  have bx0 := (Box.new w 37 [.int .i64 kind, .int .i64 (p : Int), .int .i64 index, .int .i64 e.kind, .int .i64 e.member, .int .i64 e.number, .string (bs e.text)])
  have ex : Ext w (w.alloc (Obj.cells #[.int .i64 kind, .int .i64 (p : Int), .int .i64 index, .int .i64 e.kind, .int .i64 e.member, .int .i64 e.number, .string (bs e.text)] 37)) := ((Keeps.refl NoB w).alloc _)
  have sx : (w.alloc (Obj.cells #[.int .i64 kind, .int .i64 (p : Int), .int .i64 index, .int .i64 e.kind, .int .i64 e.member, .int .i64 e.number, .string (bs e.text)] 37)).heap.size = w.heap.size + 1 := by simp
  generalize (w.alloc (Obj.cells #[.int .i64 kind, .int .i64 (p : Int), .int .i64 index, .int .i64 e.kind, .int .i64 e.member, .int .i64 e.number, .string (bs e.text)] 37)) = w0 at bx0 ex sx ⊢
  have Sx := Lib.hid sx
  clear sx
  have BX := Lib.hid bx0
  have HE := Lib.hid ex
  obtain ⟨Ft, tb, mb, hat⟩ := HX.out.ext ex
  have HAT := Lib.hid hat
  have HFB := Lib.hid hat.fb
  have HLT := Lib.hid (let ⟨_, _, _, h⟩ := HX.out; h.lt b h.fb)
  have cn := hat.toldAt p hp
  rw [HN.out] at cn
  have lt := hat.box.lt
  have g1 : (p : Int) < 9 := by omega
  have g2 : ¬ (p : Int) < 0 := by omega
  clear bx0 ex hat hp
  obtain ⟨cBX, zBX⟩ := BX.out.reads
  have lBX := BX.out.lt
  have hE0 : Keeps NoB w0 w0.drew := (Keeps.refl _ _).drew
  refine wp_region_plan [(0, 0), (3, 1), (0, 2), (0, 3), (3, 4), (0, 5), (0, 6), (0, 7), (0, 8), (3, 9), (0, 10)] [] [11, 12] [11, 12] (ClsE w0) (by kernel_rfl) (by kernel_rfl) (by kernel_rfl) rfl rfl (ClsE.of hE0) (fun _ _ _ d _ h => by cases d <;> exact h) ?_; simp only [planL, List.getElem?_toArray, List.getElem?_cons_succ, List.getElem?_cons_zero]
  refine plan_pure rfl (fun K hK => quiet_run (v := ?_) (fun W _ => ?_) (hK _ ?_)); rotate_left; (go_simp <;> with_reducible rfl); clear hK K; simp only [Act.put, List.setIfInBounds_toArray, List.set_cons_zero, List.set_cons_succ]
  refine plan_exact rfl (fun K hK => quiet_runX (v := ?_) ?_ (hK _ ?_)); rotate_left; (go_simp <;> with_reducible rfl); clear hK K; simp only [Act.put, List.setIfInBounds_toArray, List.set_cons_zero, List.set_cons_succ]
  refine plan_pure rfl (fun K hK => quiet_move' _ rfl (hK _ ?_)); clear hK K; simp only [Act.put, Act.eval, Array.getD_eq_getD_getElem?, List.getElem?_toArray, List.getElem?_cons_zero, Option.getD_some, List.setIfInBounds_toArray, List.set_cons_zero, List.set_cons_succ]
  refine plan_pure rfl (fun K hK => quiet_run (v := ?_) (fun W _ => ?_) (hK _ ?_)); rotate_left; (go_simp <;> with_reducible rfl); clear hK K; simp only [Act.put, List.setIfInBounds_toArray, List.set_cons_zero, List.set_cons_succ]
  refine plan_exact rfl (fun K hK => quiet_runX (v := ?_) ?_ (hK _ ?_)); rotate_left; (go_simp <;> with_reducible rfl); clear hK K; simp only [Act.put, List.setIfInBounds_toArray, List.set_cons_zero, List.set_cons_succ]
  refine plan_pure rfl (fun K hK => quiet_run (v := ?_) (fun W _ => ?_) (hK _ ?_)); rotate_left; (go_simp <;> with_reducible rfl); clear hK K; simp only [Act.put, List.setIfInBounds_toArray, List.set_cons_zero, List.set_cons_succ]
  refine plan_pure rfl (fun K hK => quiet_run (v := ?_) (fun W _ => ?_) (hK _ ?_)); rotate_left; (go_simp <;> with_reducible rfl); clear hK K; simp only [Act.put, List.setIfInBounds_toArray, List.set_cons_zero, List.set_cons_succ]
  refine plan_pure rfl (fun K hK => quiet_run (v := ?_) (fun W _ => ?_) (hK _ ?_)); rotate_left; (go_simp <;> with_reducible rfl); clear hK K; simp only [Act.put, List.setIfInBounds_toArray, List.set_cons_zero, List.set_cons_succ]
  refine plan_pure rfl (fun K hK => quiet_run (v := ?_) (fun W _ => ?_) (hK _ ?_)); rotate_left; (go_simp <;> with_reducible rfl); clear hK K; simp only [Act.put, List.setIfInBounds_toArray, List.set_cons_zero, List.set_cons_succ]
  refine plan_exact rfl (fun K hK => quiet_runX (v := ?_) ?_ (hK _ ?_)); rotate_left; (go_simp <;> with_reducible rfl); clear hK K; simp only [Act.put, List.setIfInBounds_toArray, List.set_cons_zero, List.set_cons_succ]
  refine plan_pure rfl (fun K hK => quiet_run (v := ?_) (fun W _ => ?_) (hK _ ?_)); rotate_left; (go_simp <;> with_reducible rfl); clear hK K; simp only [Act.put, List.setIfInBounds_toArray, List.set_cons_zero, List.set_cons_succ]
  refine plan_nil ?_; simp only [tailL, List.filterMap_cons, List.filterMap_nil, List.getElem?_toArray, List.getElem?_cons_succ, List.getElem?_cons_zero]; change wpList _ _ _ (_ :: _ :: []) _ _
  clear cBX zBX lBX
  go_wp2_with fail
  have by0 := (Box.new w0 4 [.bool (decide (n ≤ index))])
  have ey : Ext w0 (w0.alloc (Obj.cells #[.bool (decide (n ≤ index))] 4)) := ((Keeps.refl NoB w0).alloc _)
  have sy : (w0.alloc (Obj.cells #[.bool (decide (n ≤ index))] 4)).heap.size = w0.heap.size + 1 := by simp
  generalize (w0.alloc (Obj.cells #[.bool (decide (n ≤ index))] 4)) = w1 at by0 ey sy ⊢
  have Sy := Lib.hid sy
  clear sy
  rw [HD.out] at by0
  have e01 : Ext w0 w1.drew := ey.drew
  replace HE := Lib.hid (HE.out.ext e01)
  replace HAT := Lib.hid (HAT.out.keeps e01 fun _ _ => noB _)
  replace BX := Lib.hid (BX.out.ext e01)
  refine (must_ok_1 w1.drew _ 404 true true by0.drew rfl).mono ?_
  rintro r w2 ⟨rfl, rfl⟩
  clear ey by0 e01 cn lt
  generalize w1.drew = w2 at HE HAT BX ⊢
  obtain ⟨-, -, -, c28, -, lt⟩ := HAT.out.see
  have HT := Lib.hid HAT.out.talk
  obtain ⟨cBX, zBX⟩ := BX.out.reads
  have lBX := BX.out.lt
  go_wp2_with fail
  have hE0 : Keeps NoB w2 w2.drew := (Keeps.refl _ _).drew
  refine wp_region_plan [(0, 0), (1, 1), (0, 2), (0, 3), (0, 4), (3, 5), (2, 6), (0, 7)] [1] [6, 8, 9] [8, 9] (ClsE w2) (by kernel_rfl) (by kernel_rfl) (by kernel_rfl) rfl rfl (ClsE.of hE0) (fun _ _ _ d _ h => by cases d <;> exact h) ?_; simp only [planL, List.getElem?_toArray, List.getElem?_cons_succ, List.getElem?_cons_zero]
  refine plan_pure rfl (fun K hK => quiet_run (v := ?_) (fun W _ => ?_) (hK _ ?_)); rotate_left; (go_simp <;> with_reducible rfl); clear hK K; simp only [Act.put, List.setIfInBounds_toArray, List.set_cons_zero, List.set_cons_succ]
  refine plan_load rfl (fun K hK => quiet_runE (v := ?_) (fun W => ?_) (hK _ ?_)); rotate_left; (go_simp <;> with_reducible rfl); clear hK K; simp only [Act.put, List.setIfInBounds_toArray, List.set_cons_zero, List.set_cons_succ]
  refine plan_pure rfl (fun K hK => quiet_move' _ rfl (hK _ ?_)); clear hK K; simp only [Act.put, Act.eval, Array.getD_eq_getD_getElem?, List.getElem?_toArray, List.getElem?_cons_zero, Option.getD_some, List.setIfInBounds_toArray, List.set_cons_zero, List.set_cons_succ]
  refine plan_pure rfl (fun K hK => quiet_run (v := ?_) (fun W _ => ?_) (hK _ ?_)); rotate_left; (go_simp <;> with_reducible rfl); clear hK K; simp only [Act.put, List.setIfInBounds_toArray, List.set_cons_zero, List.set_cons_succ]
  refine plan_pure rfl (fun K hK => quiet_run (v := ?_) (fun W _ => ?_) (hK _ ?_)); rotate_left; (go_simp <;> with_reducible rfl); clear hK K; simp only [Act.put, List.setIfInBounds_toArray, List.set_cons_zero, List.set_cons_succ]
  refine plan_exact rfl (fun K hK => quiet_runX (v := ?_) ?_ (hK _ ?_)); rotate_left; (go_simp <;> with_reducible rfl); clear hK K; simp only [Act.put, List.setIfInBounds_toArray, List.set_cons_zero, List.set_cons_succ]
  refine plan_does rfl (fun K hK => ?_)
  go_wp2_with fail
  refine (talk_len _ tb J.T (HT.out.ext hE0)).mono ?_
  rintro r w3 ⟨rfl, rfl⟩
  refine hK _ _ ⟨ClsE.of (by assumption), ?_⟩; clear hK K; try simp only [Act.put, List.setIfInBounds_toArray, List.set_cons_zero, List.set_cons_succ]
  refine plan_pure rfl (fun K hK => quiet_run (v := ?_) (fun W _ => ?_) (hK _ ?_)); rotate_left; (go_simp <;> with_reducible rfl); clear hK K; simp only [Act.put, List.setIfInBounds_toArray, List.set_cons_zero, List.set_cons_succ]
  refine plan_nil ?_; simp only [tailL, List.filterMap_cons, List.filterMap_nil, List.getElem?_toArray, List.getElem?_cons_succ, List.getElem?_cons_zero]; change wpList _ _ _ (_ :: _ :: []) _ _
  clear cBX zBX lBX
  go_wp2_with fail
  have bz0 := (Box.new w2 4 [.bool (decide (index ≤ (J.T.l.length : Int)))])
  have ez : Ext w2 (w2.alloc (Obj.cells #[.bool (decide (index ≤ (J.T.l.length : Int)))] 4)) := ((Keeps.refl NoB w2).alloc _)
  have sz : (w2.alloc (Obj.cells #[.bool (decide (index ≤ (J.T.l.length : Int)))] 4)).heap.size = w2.heap.size + 1 := by simp
  generalize (w2.alloc (Obj.cells #[.bool (decide (index ≤ (J.T.l.length : Int)))] 4)) = w4 at bz0 ez sz ⊢
  have Sz := Lib.hid sz
  clear sz
  rw [HD2.out] at bz0
  have HE1 := Lib.hid ((HE.out.ext ez).drew)
  refine (must_bad_1 w4.drew _ 403 false true bz0.drew rfl).mono ?_
  rintro r w5 ⟨rfl, rfl⟩
  clear ez bz0
  go_wp2_with fail
  exact ⟨rfl, rfl, HE1.out⟩
theorem back_ok {F : Nat → Prop} (w : World) (b : Nat) (J : JA) (kind : Int) (p : Nat) (index : Int) (e : En) (h : JudgeX w F b J) (hp : p < 9) (hle : J.told.getD p 0 ≤ index) (hle2 : index ≤ J.T.l.length) :
    Calls Tryd.prog 50 #[.pointer (some ⟨b, 0, none⟩), (⟨kind, p, index, e⟩ : Sn).v] w fun r w' => r = .returned (.tuple #[]) ∧ JudgeX w' F b { J with told := J.told.set p index } ∧ Keeps F w w' := by
  have HD2 := Lib.hid (decide_eq_true hle2)
  clear hle2
  have HX := Lib.hid h
  have HP := Lib.hid hp
  have HD := Lib.hid (decide_eq_true hle)
  clear h hle
  obtain ⟨n, hn⟩ : ∃ n, J.told.getD p 0 = n := ⟨_, rfl⟩
  rw [hn] at HD
  have HN := Lib.hid hn
  clear hn
  unfold Sn.v
  go_enter Tryd.func50, Tryd.ntmps50
  go_wp2_with fail
  have bx0 := (Box.new w 37 [.int .i64 kind, .int .i64 (p : Int), .int .i64 index, .int .i64 e.kind, .int .i64 e.member, .int .i64 e.number, .string (bs e.text)])
  have ex : Ext w (w.alloc (Obj.cells #[.int .i64 kind, .int .i64 (p : Int), .int .i64 index, .int .i64 e.kind, .int .i64 e.member, .int .i64 e.number, .string (bs e.text)] 37)) := ((Keeps.refl NoB w).alloc _)
  have sx : (w.alloc (Obj.cells #[.int .i64 kind, .int .i64 (p : Int), .int .i64 index, .int .i64 e.kind, .int .i64 e.member, .int .i64 e.number, .string (bs e.text)] 37)).heap.size = w.heap.size + 1 := by simp
  generalize (w.alloc (Obj.cells #[.int .i64 kind, .int .i64 (p : Int), .int .i64 index, .int .i64 e.kind, .int .i64 e.member, .int .i64 e.number, .string (bs e.text)] 37)) = w0 at bx0 ex sx ⊢
  have Sx := Lib.hid sx
  clear sx
  have BX := Lib.hid bx0
  have HE := Lib.hid ex
  obtain ⟨Ft, tb, mb, hat⟩ := HX.out.ext ex
  have HAT := Lib.hid hat
  have HFB := Lib.hid hat.fb
  have HLT := Lib.hid (let ⟨_, _, _, h⟩ := HX.out; h.lt b h.fb)
  have cn := hat.toldAt p hp
  rw [HN.out] at cn
  have lt := hat.box.lt
  have g1 : (p : Int) < 9 := by omega
  have g2 : ¬ (p : Int) < 0 := by omega
  clear bx0 ex hat hp
  obtain ⟨cBX, zBX⟩ := BX.out.reads
  have lBX := BX.out.lt
  have hE0 : Keeps NoB w0 w0.drew := (Keeps.refl _ _).drew
  refine wp_region_plan [(0, 0), (3, 1), (0, 2), (0, 3), (3, 4), (0, 5), (0, 6), (0, 7), (0, 8), (3, 9), (0, 10)] [] [11, 12] [11, 12] (ClsE w0) (by kernel_rfl) (by kernel_rfl) (by kernel_rfl) rfl rfl (ClsE.of hE0) (fun _ _ _ d _ h => by cases d <;> exact h) ?_; simp only [planL, List.getElem?_toArray, List.getElem?_cons_succ, List.getElem?_cons_zero]
  refine plan_pure rfl (fun K hK => quiet_run (v := ?_) (fun W _ => ?_) (hK _ ?_)); rotate_left; (go_simp <;> with_reducible rfl); clear hK K; simp only [Act.put, List.setIfInBounds_toArray, List.set_cons_zero, List.set_cons_succ]
  refine plan_exact rfl (fun K hK => quiet_runX (v := ?_) ?_ (hK _ ?_)); rotate_left; (go_simp <;> with_reducible rfl); clear hK K; simp only [Act.put, List.setIfInBounds_toArray, List.set_cons_zero, List.set_cons_succ]
  refine plan_pure rfl (fun K hK => quiet_move' _ rfl (hK _ ?_)); clear hK K; simp only [Act.put, Act.eval, Array.getD_eq_getD_getElem?, List.getElem?_toArray, List.getElem?_cons_zero, Option.getD_some, List.setIfInBounds_toArray, List.set_cons_zero, List.set_cons_succ]
  refine plan_pure rfl (fun K hK => quiet_run (v := ?_) (fun W _ => ?_) (hK _ ?_)); rotate_left; (go_simp <;> with_reducible rfl); clear hK K; simp only [Act.put, List.setIfInBounds_toArray, List.set_cons_zero, List.set_cons_succ]
  refine plan_exact rfl (fun K hK => quiet_runX (v := ?_) ?_ (hK _ ?_)); rotate_left; (go_simp <;> with_reducible rfl); clear hK K; simp only [Act.put, List.setIfInBounds_toArray, List.set_cons_zero, List.set_cons_succ]
  refine plan_pure rfl (fun K hK => quiet_run (v := ?_) (fun W _ => ?_) (hK _ ?_)); rotate_left; (go_simp <;> with_reducible rfl); clear hK K; simp only [Act.put, List.setIfInBounds_toArray, List.set_cons_zero, List.set_cons_succ]
  refine plan_pure rfl (fun K hK => quiet_run (v := ?_) (fun W _ => ?_) (hK _ ?_)); rotate_left; (go_simp <;> with_reducible rfl); clear hK K; simp only [Act.put, List.setIfInBounds_toArray, List.set_cons_zero, List.set_cons_succ]
  refine plan_pure rfl (fun K hK => quiet_run (v := ?_) (fun W _ => ?_) (hK _ ?_)); rotate_left; (go_simp <;> with_reducible rfl); clear hK K; simp only [Act.put, List.setIfInBounds_toArray, List.set_cons_zero, List.set_cons_succ]
  refine plan_pure rfl (fun K hK => quiet_run (v := ?_) (fun W _ => ?_) (hK _ ?_)); rotate_left; (go_simp <;> with_reducible rfl); clear hK K; simp only [Act.put, List.setIfInBounds_toArray, List.set_cons_zero, List.set_cons_succ]
  refine plan_exact rfl (fun K hK => quiet_runX (v := ?_) ?_ (hK _ ?_)); rotate_left; (go_simp <;> with_reducible rfl); clear hK K; simp only [Act.put, List.setIfInBounds_toArray, List.set_cons_zero, List.set_cons_succ]
  refine plan_pure rfl (fun K hK => quiet_run (v := ?_) (fun W _ => ?_) (hK _ ?_)); rotate_left; (go_simp <;> with_reducible rfl); clear hK K; simp only [Act.put, List.setIfInBounds_toArray, List.set_cons_zero, List.set_cons_succ]
  refine plan_nil ?_; simp only [tailL, List.filterMap_cons, List.filterMap_nil, List.getElem?_toArray, List.getElem?_cons_succ, List.getElem?_cons_zero]; change wpList _ _ _ (_ :: _ :: []) _ _
  clear cBX zBX lBX
  go_wp2_with fail
  have by0 := (Box.new w0 4 [.bool (decide (n ≤ index))])
  have ey : Ext w0 (w0.alloc (Obj.cells #[.bool (decide (n ≤ index))] 4)) := ((Keeps.refl NoB w0).alloc _)
  have sy : (w0.alloc (Obj.cells #[.bool (decide (n ≤ index))] 4)).heap.size = w0.heap.size + 1 := by simp
  generalize (w0.alloc (Obj.cells #[.bool (decide (n ≤ index))] 4)) = w1 at by0 ey sy ⊢
  have Sy := Lib.hid sy
  clear sy
  rw [HD.out] at by0
  have e01 : Ext w0 w1.drew := ey.drew
  replace HE := Lib.hid (HE.out.ext e01)
  replace HAT := Lib.hid (HAT.out.keeps e01 fun _ _ => noB _)
  replace BX := Lib.hid (BX.out.ext e01)
  refine (must_ok_1 w1.drew _ 404 true true by0.drew rfl).mono ?_
  rintro r w2 ⟨rfl, rfl⟩
  clear ey by0 e01 cn lt
  generalize w1.drew = w2 at HE HAT BX ⊢
  obtain ⟨-, -, -, c28, -, lt⟩ := HAT.out.see
  have HT := Lib.hid HAT.out.talk
  obtain ⟨cBX, zBX⟩ := BX.out.reads
  have lBX := BX.out.lt
  go_wp2_with fail
  have hE0 : Keeps NoB w2 w2.drew := (Keeps.refl _ _).drew
  refine wp_region_plan [(0, 0), (1, 1), (0, 2), (0, 3), (0, 4), (3, 5), (2, 6), (0, 7)] [1] [6, 8, 9] [8, 9] (ClsE w2) (by kernel_rfl) (by kernel_rfl) (by kernel_rfl) rfl rfl (ClsE.of hE0) (fun _ _ _ d _ h => by cases d <;> exact h) ?_; simp only [planL, List.getElem?_toArray, List.getElem?_cons_succ, List.getElem?_cons_zero]
  refine plan_pure rfl (fun K hK => quiet_run (v := ?_) (fun W _ => ?_) (hK _ ?_)); rotate_left; (go_simp <;> with_reducible rfl); clear hK K; simp only [Act.put, List.setIfInBounds_toArray, List.set_cons_zero, List.set_cons_succ]
  refine plan_load rfl (fun K hK => quiet_runE (v := ?_) (fun W => ?_) (hK _ ?_)); rotate_left; (go_simp <;> with_reducible rfl); clear hK K; simp only [Act.put, List.setIfInBounds_toArray, List.set_cons_zero, List.set_cons_succ]
  refine plan_pure rfl (fun K hK => quiet_move' _ rfl (hK _ ?_)); clear hK K; simp only [Act.put, Act.eval, Array.getD_eq_getD_getElem?, List.getElem?_toArray, List.getElem?_cons_zero, Option.getD_some, List.setIfInBounds_toArray, List.set_cons_zero, List.set_cons_succ]
  refine plan_pure rfl (fun K hK => quiet_run (v := ?_) (fun W _ => ?_) (hK _ ?_)); rotate_left; (go_simp <;> with_reducible rfl); clear hK K; simp only [Act.put, List.setIfInBounds_toArray, List.set_cons_zero, List.set_cons_succ]
  refine plan_pure rfl (fun K hK => quiet_run (v := ?_) (fun W _ => ?_) (hK _ ?_)); rotate_left; (go_simp <;> with_reducible rfl); clear hK K; simp only [Act.put, List.setIfInBounds_toArray, List.set_cons_zero, List.set_cons_succ]
  refine plan_exact rfl (fun K hK => quiet_runX (v := ?_) ?_ (hK _ ?_)); rotate_left; (go_simp <;> with_reducible rfl); clear hK K; simp only [Act.put, List.setIfInBounds_toArray, List.set_cons_zero, List.set_cons_succ]
  refine plan_does rfl (fun K hK => ?_)
  go_wp2_with fail
  refine (talk_len _ tb J.T (HT.out.ext hE0)).mono ?_
  rintro r w3 ⟨rfl, rfl⟩
  refine hK _ _ ⟨ClsE.of (by assumption), ?_⟩; clear hK K; try simp only [Act.put, List.setIfInBounds_toArray, List.set_cons_zero, List.set_cons_succ]
  refine plan_pure rfl (fun K hK => quiet_run (v := ?_) (fun W _ => ?_) (hK _ ?_)); rotate_left; (go_simp <;> with_reducible rfl); clear hK K; simp only [Act.put, List.setIfInBounds_toArray, List.set_cons_zero, List.set_cons_succ]
  refine plan_nil ?_; simp only [tailL, List.filterMap_cons, List.filterMap_nil, List.getElem?_toArray, List.getElem?_cons_succ, List.getElem?_cons_zero]; change wpList _ _ _ (_ :: _ :: []) _ _
  clear cBX zBX lBX
  go_wp2_with fail
  have bz0 := (Box.new w2 4 [.bool (decide (index ≤ (J.T.l.length : Int)))])
  have ez : Ext w2 (w2.alloc (Obj.cells #[.bool (decide (index ≤ (J.T.l.length : Int)))] 4)) := ((Keeps.refl NoB w2).alloc _)
  have sz : (w2.alloc (Obj.cells #[.bool (decide (index ≤ (J.T.l.length : Int)))] 4)).heap.size = w2.heap.size + 1 := by simp
  generalize (w2.alloc (Obj.cells #[.bool (decide (index ≤ (J.T.l.length : Int)))] 4)) = w4 at bz0 ez sz ⊢
  have Sz := Lib.hid sz
  clear sz
  rw [HD2.out] at bz0
  have e24 : Ext w2 w4.drew := ez.drew
  replace HE := Lib.hid (HE.out.ext e24)
  replace HAT := Lib.hid (HAT.out.keeps e24 fun _ _ => noB _)
  replace BX := Lib.hid (BX.out.ext e24)
  refine (must_ok_1 w4.drew _ 403 true true bz0.drew rfl).mono ?_
  rintro r w5 ⟨rfl, rfl⟩
  clear ez bz0 e24 c28 lt hE0
  generalize w4.drew = w5 at HE HAT BX ⊢
  have cn := HAT.out.toldAt p HP.out
  have lt := HAT.out.box.lt
  have zz := HAT.out.box.reads.2
  have n0 : ¬ OneB b w.heap.size := by have := HLT.out; unfold OneB; omega
  obtain ⟨cBX, zBX⟩ := BX.out.reads
  have lBX := BX.out.lt
  go_wp2_with fail
  have hE0 : Keeps (OneB b) w5 w5.drew := (Keeps.refl _ _).drew
  refine wp_region_plan [(0, 0), (0, 1), (3, 2), (0, 3), (3, 4), (0, 5), (0, 6), (0, 7), (0, 8)] [] [9] [9] (ClsK (OneB b) w5) (by kernel_rfl) (by kernel_rfl) (by kernel_rfl) rfl rfl (ClsK.of hE0) (fun _ _ _ d _ h => by cases d <;> exact h) ?_; simp only [planL, List.getElem?_toArray, List.getElem?_cons_succ, List.getElem?_cons_zero]
  refine plan_pure rfl (fun K hK => quiet_move' _ rfl (hK _ ?_)); clear hK K; simp only [Act.put, Act.eval, Array.getD_eq_getD_getElem?, List.getElem?_toArray, List.getElem?_cons_zero, Option.getD_some, List.setIfInBounds_toArray, List.set_cons_zero, List.set_cons_succ]
  refine plan_pure rfl (fun K hK => quiet_run (v := ?_) (fun W _ => ?_) (hK _ ?_)); rotate_left; (go_simp <;> with_reducible rfl); clear hK K; simp only [Act.put, List.setIfInBounds_toArray, List.set_cons_zero, List.set_cons_succ]
  refine plan_exact rfl (fun K hK => quiet_runX (v := ?_) ?_ (hK _ ?_)); rotate_left; (go_simp <;> with_reducible rfl); clear hK K; simp only [Act.put, List.setIfInBounds_toArray, List.set_cons_zero, List.set_cons_succ]
  refine plan_pure rfl (fun K hK => quiet_run (v := ?_) (fun W _ => ?_) (hK _ ?_)); rotate_left; (go_simp <;> with_reducible rfl); clear hK K; simp only [Act.put, List.setIfInBounds_toArray, List.set_cons_zero, List.set_cons_succ]
  refine plan_exact rfl (fun K hK => quiet_runX (v := ?_) ?_ (hK _ ?_)); rotate_left; (go_simp <;> with_reducible rfl); clear hK K; simp only [Act.put, List.setIfInBounds_toArray, List.set_cons_zero, List.set_cons_succ]
  refine plan_pure rfl (fun K hK => quiet_run (v := ?_) (fun W _ => ?_) (hK _ ?_)); rotate_left; (go_simp <;> with_reducible rfl); clear hK K; simp only [Act.put, List.setIfInBounds_toArray, List.set_cons_zero, List.set_cons_succ]
  refine plan_pure rfl (fun K hK => quiet_run (v := ?_) (fun W _ => ?_) (hK _ ?_)); rotate_left; (go_simp <;> with_reducible rfl); clear hK K; simp only [Act.put, List.setIfInBounds_toArray, List.set_cons_zero, List.set_cons_succ]
  refine plan_pure rfl (fun K hK => quiet_run (v := ?_) (fun W _ => ?_) (hK _ ?_)); rotate_left; (go_simp <;> with_reducible rfl); clear hK K; simp only [Act.put, List.setIfInBounds_toArray, List.set_cons_zero, List.set_cons_succ]
  refine plan_pure rfl (fun K hK => quiet_run (v := ?_) (fun W _ => ?_) (hK _ ?_)); rotate_left; (go_simp <;> with_reducible rfl); clear hK K; simp only [Act.put, List.setIfInBounds_toArray, List.set_cons_zero, List.set_cons_succ]
  refine plan_nil ?_; simp only [tailL, List.filterMap_cons, List.filterMap_nil, List.getElem?_toArray, List.getElem?_cons_succ, List.getElem?_cons_zero]; change wpList _ _ _ (_ :: []) _ _
  clear cBX zBX lBX
  go_wp2_with fail
  go_end0
  have hk : Keeps (OneB b) w5 (w5.setCell ⟨b, p, none⟩ (.int .i64 index)) := (Keeps.refl _ _).setOne _ _
  have hat := (HAT.out.putTold p HP.out index).keeps (S := NoB) ((Keeps.refl _ _).drew) (fun _ _ => noB _)
  exact ⟨rfl, ⟨Ft, tb, mb, hat⟩, ((Ext.keeps HE.out).then hk (fun i hi h => by obtain rfl : i = b := h; exact HFB.out)).drew⟩
end Go.Proofs.YthhdgjofagdjeaaDoor
