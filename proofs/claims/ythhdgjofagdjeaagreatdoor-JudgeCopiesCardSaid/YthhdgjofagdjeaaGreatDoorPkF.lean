/- Texts JV, JW, JSep, JX, JY, one behind the other. Conditions: as each says. -/
import Derived.Test.YthhdgjofagdjeaaGreatDoorPkE
section
/- What a judge does with a thing seen: a member was told a line. Condition: the judge lies as 'JudgeAt' says; the member is one of sixteen. -/
set_option linter.unusedVariables false
set_option linter.unusedSimpArgs false
set_option maxHeartbeats 2000000
set_option maxRecDepth 10000
namespace Go.Proofs.YthhdgjofagdjeaaGreatDoor
open Go.RowKit

theorem told_skip {F : Nat → Prop} (w : World) (b : Nat) (J : JA) (kind : Int) (p : Nat) (index : Int) (e : En) (h : JudgeX w F b J) (hp : p < 16) (hl : J.T.l.length ≤ 4096) (hle : ¬ index = J.next.getD p 0) :
    Calls Tryz.prog 57 #[.pointer (some ⟨b, 0, none⟩), (⟨kind, p, index, e⟩ : Sn).v] w fun r w' => r = .panicked [{ v := .iface 26 (.int .i64 403), recovered := false }] ∧ Ext w w' := by
  have HX := Lib.hid h
  have HP := Lib.hid hp
  have HL := Lib.hid hl
  obtain ⟨n, hn⟩ : ∃ n, J.next.getD p 0 = n := ⟨_, rfl⟩
  rw [hn] at hle
  have HD : Hid ((index == n) = false) := Lib.hid (by simpa using hle)
  have HN := Lib.hid hn
  clear hn h hle hl
  unfold Sn.v
  go_enter Tryz.func57, Tryz.ntmps57
  go_wp2_with fail
  have bx0 := (Box.new w 56 [.int .i64 kind, .int .i64 (p : Int), .int .i64 index, .int .i64 e.kind, .int .i64 e.member, .int .i64 e.number, .string (bs e.text)])
  have ex : Ext w (w.alloc (Obj.cells #[.int .i64 kind, .int .i64 (p : Int), .int .i64 index, .int .i64 e.kind, .int .i64 e.member, .int .i64 e.number, .string (bs e.text)] 56)) := ((Keeps.refl NoB w).alloc _)
  have sx : (w.alloc (Obj.cells #[.int .i64 kind, .int .i64 (p : Int), .int .i64 index, .int .i64 e.kind, .int .i64 e.member, .int .i64 e.number, .string (bs e.text)] 56)).heap.size = w.heap.size + 1 := by simp
  generalize (w.alloc (Obj.cells #[.int .i64 kind, .int .i64 (p : Int), .int .i64 index, .int .i64 e.kind, .int .i64 e.member, .int .i64 e.number, .string (bs e.text)] 56)) = w0 at bx0 ex sx ⊢
  have Sx := Lib.hid sx
  clear sx
  have BX := Lib.hid bx0
  have HE := Lib.hid ex
  obtain ⟨Ft, tb, mb, hat⟩ := HX.out.ext ex
  have HAT := Lib.hid hat
  have HFB := Lib.hid hat.fb
  have HLT := Lib.hid (let ⟨_, _, _, h⟩ := HX.out; h.lt b h.fb)
  have cn := hat.next p hp
  rw [HN.out] at cn
  have lt := hat.box.lt
  have g1 : (p : Int) < 16 := by omega
  have g2 : ¬ (p : Int) < 0 := by omega
  clear bx0 ex hat hp
  obtain ⟨cBX, zBX⟩ := BX.out.reads
  have lBX := BX.out.lt
  have hE0 : Keeps NoB w0 w0.drew := (Keeps.refl _ _).drew
  refine wp_region_plan [(0, 0), (3, 1), (0, 2), (0, 3), (3, 4), (0, 5), (0, 6), (0, 7), (0, 8), (3, 9), (0, 10)] [] [11, 12] [11, 12] (ClsE w0) (by kernel_rfl) (by kernel_rfl) (by kernel_rfl) rfl rfl (ClsE.of hE0) (fun _ _ _ d _ h => by cases d <;> exact h) ?_; simp only [planL, nL]
  refine pR (v := ?_) rfl (fun W => ?_) ?_; rotate_left; (go_simp <;> with_reducible rfl); simp only [nP]
  refine pX (v := ?_) rfl ?_ ?_; rotate_left; (go_simp <;> with_reducible rfl); simp only [nP]
  refine pM _ rfl rfl ?_; simp only [nP, nE]
  refine pR (v := ?_) rfl (fun W => ?_) ?_; rotate_left; (go_simp <;> with_reducible rfl); simp only [nP]
  refine pX (v := ?_) rfl ?_ ?_; rotate_left; (go_simp <;> with_reducible rfl); simp only [nP]
  iterate 4 (refine pR (v := ?_) rfl (fun W => ?_) ?_; rotate_left; (go_simp <;> with_reducible rfl); simp only [nP])
  refine pX (v := ?_) rfl ?_ ?_; rotate_left; (go_simp <;> with_reducible rfl); simp only [nP]
  refine pR (v := ?_) rfl (fun W => ?_) ?_; rotate_left; (go_simp <;> with_reducible rfl); simp only [nP]
  refine plan_nil ?_; simp only [tailL, List.filterMap_cons, List.filterMap_nil, nL]; change wpList _ _ _ (_ :: _ :: []) _ _
  clear cBX zBX lBX
  go_wp2_with fail
  have by0 := (Box.new w0 4 [.bool (index == n)])
  have ey : Ext w0 (w0.alloc (Obj.cells #[.bool (index == n)] 4)) := ((Keeps.refl NoB w0).alloc _)
  have sy : (w0.alloc (Obj.cells #[.bool (index == n)] 4)).heap.size = w0.heap.size + 1 := by simp
  generalize (w0.alloc (Obj.cells #[.bool (index == n)] 4)) = w1 at by0 ey sy ⊢
  have Sy := Lib.hid sy
  clear sy
  rw [HD.out] at by0
  have HE1 := Lib.hid ((HE.out.ext ey).drew)
  refine (must_bad_1 w1.drew _ 403 false true by0.drew rfl).mono ?_
  rintro r w2 ⟨rfl, rfl⟩
  clear ey by0
  go_wp2_with fail
  exact ⟨rfl, rfl, HE1.out⟩
theorem told_early {F : Nat → Prop} (w : World) (b : Nat) (J : JA) (kind : Int) (p : Nat) (index : Int) (e : En) (h : JudgeX w F b J) (hp : p < 16) (hl : J.T.l.length ≤ 4096) (hle : index = J.next.getD p 0) (hle2 : ¬ index < J.T.l.length) :
    Calls Tryz.prog 57 #[.pointer (some ⟨b, 0, none⟩), (⟨kind, p, index, e⟩ : Sn).v] w fun r w' => r = .panicked [{ v := .iface 26 (.int .i64 405), recovered := false }] ∧ Ext w w' := by
  have HD2 := Lib.hid (decide_eq_false hle2)
  clear hle2
  have HX := Lib.hid h
  have HP := Lib.hid hp
  have HL := Lib.hid hl
  obtain ⟨n, hn⟩ : ∃ n, J.next.getD p 0 = n := ⟨_, rfl⟩
  rw [hn] at hle
  have HD : Hid ((index == n) = true) := Lib.hid (by simpa using hle)
  have HN := Lib.hid hn
  clear hn h hle hl
  unfold Sn.v
  go_enter Tryz.func57, Tryz.ntmps57
  go_wp2_with fail
  have bx0 := (Box.new w 56 [.int .i64 kind, .int .i64 (p : Int), .int .i64 index, .int .i64 e.kind, .int .i64 e.member, .int .i64 e.number, .string (bs e.text)])
  have ex : Ext w (w.alloc (Obj.cells #[.int .i64 kind, .int .i64 (p : Int), .int .i64 index, .int .i64 e.kind, .int .i64 e.member, .int .i64 e.number, .string (bs e.text)] 56)) := ((Keeps.refl NoB w).alloc _)
  have sx : (w.alloc (Obj.cells #[.int .i64 kind, .int .i64 (p : Int), .int .i64 index, .int .i64 e.kind, .int .i64 e.member, .int .i64 e.number, .string (bs e.text)] 56)).heap.size = w.heap.size + 1 := by simp
  generalize (w.alloc (Obj.cells #[.int .i64 kind, .int .i64 (p : Int), .int .i64 index, .int .i64 e.kind, .int .i64 e.member, .int .i64 e.number, .string (bs e.text)] 56)) = w0 at bx0 ex sx ⊢
  have Sx := Lib.hid sx
  clear sx
  have BX := Lib.hid bx0
  have HE := Lib.hid ex
  obtain ⟨Ft, tb, mb, hat⟩ := HX.out.ext ex
  have HAT := Lib.hid hat
  have HFB := Lib.hid hat.fb
  have HLT := Lib.hid (let ⟨_, _, _, h⟩ := HX.out; h.lt b h.fb)
  have cn := hat.next p hp
  rw [HN.out] at cn
  have lt := hat.box.lt
  have g1 : (p : Int) < 16 := by omega
  have g2 : ¬ (p : Int) < 0 := by omega
  clear bx0 ex hat hp
  obtain ⟨cBX, zBX⟩ := BX.out.reads
  have lBX := BX.out.lt
  have hE0 : Keeps NoB w0 w0.drew := (Keeps.refl _ _).drew
  refine wp_region_plan [(0, 0), (3, 1), (0, 2), (0, 3), (3, 4), (0, 5), (0, 6), (0, 7), (0, 8), (3, 9), (0, 10)] [] [11, 12] [11, 12] (ClsE w0) (by kernel_rfl) (by kernel_rfl) (by kernel_rfl) rfl rfl (ClsE.of hE0) (fun _ _ _ d _ h => by cases d <;> exact h) ?_; simp only [planL, nL]
  refine pR (v := ?_) rfl (fun W => ?_) ?_; rotate_left; (go_simp <;> with_reducible rfl); simp only [nP]
  refine pX (v := ?_) rfl ?_ ?_; rotate_left; (go_simp <;> with_reducible rfl); simp only [nP]
  refine pM _ rfl rfl ?_; simp only [nP, nE]
  refine pR (v := ?_) rfl (fun W => ?_) ?_; rotate_left; (go_simp <;> with_reducible rfl); simp only [nP]
  refine pX (v := ?_) rfl ?_ ?_; rotate_left; (go_simp <;> with_reducible rfl); simp only [nP]
  iterate 4 (refine pR (v := ?_) rfl (fun W => ?_) ?_; rotate_left; (go_simp <;> with_reducible rfl); simp only [nP])
  refine pX (v := ?_) rfl ?_ ?_; rotate_left; (go_simp <;> with_reducible rfl); simp only [nP]
  refine pR (v := ?_) rfl (fun W => ?_) ?_; rotate_left; (go_simp <;> with_reducible rfl); simp only [nP]
  refine plan_nil ?_; simp only [tailL, List.filterMap_cons, List.filterMap_nil, nL]; change wpList _ _ _ (_ :: _ :: []) _ _
  clear cBX zBX lBX
  go_wp2_with fail
  have by0 := (Box.new w0 4 [.bool (index == n)])
  have ey : Ext w0 (w0.alloc (Obj.cells #[.bool (index == n)] 4)) := ((Keeps.refl NoB w0).alloc _)
  have sy : (w0.alloc (Obj.cells #[.bool (index == n)] 4)).heap.size = w0.heap.size + 1 := by simp
  generalize (w0.alloc (Obj.cells #[.bool (index == n)] 4)) = w1 at by0 ey sy ⊢
  have Sy := Lib.hid sy
  clear sy
  rw [HD.out] at by0
  have e01 : Ext w0 w1.drew := ey.drew
  replace HE := Lib.hid (HE.out.ext e01)
  replace HAT := Lib.hid (HAT.out.keeps e01 fun _ _ => noB _)
  replace BX := Lib.hid (BX.out.ext e01)
  refine (must_ok_1 w1.drew _ 403 true true by0.drew rfl).mono ?_
  rintro r w2 ⟨rfl, rfl⟩
  clear ey by0 e01 cn lt
  generalize w1.drew = w2 at HE HAT BX ⊢
  obtain ⟨-, -, -, c28, -, lt⟩ := HAT.out.see
  have HT := Lib.hid HAT.out.talk
  obtain ⟨cBX, zBX⟩ := BX.out.reads
  have lBX := BX.out.lt
  go_wp2_with fail
  have hE0 : Keeps NoB w2 w2.drew := (Keeps.refl _ _).drew
  refine wp_region_plan [(0, 0), (1, 1), (0, 2), (0, 3), (0, 4), (3, 5), (2, 6), (0, 7)] [1] [6, 8, 9] [8, 9] (ClsE w2) (by kernel_rfl) (by kernel_rfl) (by kernel_rfl) rfl rfl (ClsE.of hE0) (fun _ _ _ d _ h => by cases d <;> exact h) ?_; simp only [planL, nL]
  refine pR (v := ?_) rfl (fun W => ?_) ?_; rotate_left; (go_simp <;> with_reducible rfl); simp only [nP]
  refine pL (v := ?_) rfl (fun W => ?_) ?_; rotate_left; (go_simp <;> with_reducible rfl); simp only [nP]
  refine pM _ rfl rfl ?_; simp only [nP, nE]
  iterate 2 (refine pR (v := ?_) rfl (fun W => ?_) ?_; rotate_left; (go_simp <;> with_reducible rfl); simp only [nP])
  refine pX (v := ?_) rfl ?_ ?_; rotate_left; (go_simp <;> with_reducible rfl); simp only [nP]
  refine plan_does rfl (fun K hK => ?_)
  go_wp2_with fail
  refine (talk_len _ tb J.T (HT.out.ext hE0)).mono ?_
  rintro r w3 ⟨rfl, rfl⟩
  refine hK _ _ ⟨ClsE.of (by assumption), ?_⟩; clear hK K; try simp only [nP]
  refine pR (v := ?_) rfl (fun W => ?_) ?_; rotate_left; (go_simp <;> with_reducible rfl); simp only [nP]
  refine plan_nil ?_; simp only [tailL, List.filterMap_cons, List.filterMap_nil, nL]; change wpList _ _ _ (_ :: _ :: []) _ _
  clear cBX zBX lBX
  go_wp2_with fail
  have bz0 := (Box.new w2 4 [.bool (decide (index < (J.T.l.length : Int)))])
  have ez : Ext w2 (w2.alloc (Obj.cells #[.bool (decide (index < (J.T.l.length : Int)))] 4)) := ((Keeps.refl NoB w2).alloc _)
  have sz : (w2.alloc (Obj.cells #[.bool (decide (index < (J.T.l.length : Int)))] 4)).heap.size = w2.heap.size + 1 := by simp
  generalize (w2.alloc (Obj.cells #[.bool (decide (index < (J.T.l.length : Int)))] 4)) = w4 at bz0 ez sz ⊢
  have Sz := Lib.hid sz
  clear sz
  rw [HD2.out] at bz0
  have HE1 := Lib.hid ((HE.out.ext ez).drew)
  refine (must_bad_1 w4.drew _ 405 false true bz0.drew rfl).mono ?_
  rintro r w5 ⟨rfl, rfl⟩
  clear ez bz0
  go_wp2_with fail
  exact ⟨rfl, rfl, HE1.out⟩
theorem told_two {F : Nat → Prop} (w : World) (b : Nat) (J : JA) (kind : Int) (p : Nat) (index : Int) (e : En) (h : JudgeX w F b J) (hp : p < 16) (hl : J.T.l.length ≤ 4096) (hle : index = J.next.getD p 0) (hle2 : index < J.T.l.length) (hle3 : hasB J.T.l index e = false) :
    Calls Tryz.prog 57 #[.pointer (some ⟨b, 0, none⟩), (⟨kind, p, index, e⟩ : Sn).v] w fun r w' => r = .panicked [{ v := .iface 26 (.int .i64 400), recovered := false }] ∧ Ext w w' := by
  have HD2 := Lib.hid (decide_eq_true hle2)
  have HD3 := Lib.hid hle3
  clear hle2 hle3
  have HX := Lib.hid h
  have HP := Lib.hid hp
  have HL := Lib.hid hl
  obtain ⟨n, hn⟩ : ∃ n, J.next.getD p 0 = n := ⟨_, rfl⟩
  rw [hn] at hle
  have HD : Hid ((index == n) = true) := Lib.hid (by simpa using hle)
  have HN := Lib.hid hn
  clear hn h hle hl
  unfold Sn.v
  go_enter Tryz.func57, Tryz.ntmps57
  go_wp2_with fail
  have bx0 := (Box.new w 56 [.int .i64 kind, .int .i64 (p : Int), .int .i64 index, .int .i64 e.kind, .int .i64 e.member, .int .i64 e.number, .string (bs e.text)])
  have ex : Ext w (w.alloc (Obj.cells #[.int .i64 kind, .int .i64 (p : Int), .int .i64 index, .int .i64 e.kind, .int .i64 e.member, .int .i64 e.number, .string (bs e.text)] 56)) := ((Keeps.refl NoB w).alloc _)
  have sx : (w.alloc (Obj.cells #[.int .i64 kind, .int .i64 (p : Int), .int .i64 index, .int .i64 e.kind, .int .i64 e.member, .int .i64 e.number, .string (bs e.text)] 56)).heap.size = w.heap.size + 1 := by simp
  generalize (w.alloc (Obj.cells #[.int .i64 kind, .int .i64 (p : Int), .int .i64 index, .int .i64 e.kind, .int .i64 e.member, .int .i64 e.number, .string (bs e.text)] 56)) = w0 at bx0 ex sx ⊢
  have Sx := Lib.hid sx
  clear sx
  have BX := Lib.hid bx0
  have HE := Lib.hid ex
  obtain ⟨Ft, tb, mb, hat⟩ := HX.out.ext ex
  have HAT := Lib.hid hat
  have HFB := Lib.hid hat.fb
  have HLT := Lib.hid (let ⟨_, _, _, h⟩ := HX.out; h.lt b h.fb)
  have cn := hat.next p hp
  rw [HN.out] at cn
  have lt := hat.box.lt
  have g1 : (p : Int) < 16 := by omega
  have g2 : ¬ (p : Int) < 0 := by omega
  clear bx0 ex hat hp
  obtain ⟨cBX, zBX⟩ := BX.out.reads
  have lBX := BX.out.lt
  have hE0 : Keeps NoB w0 w0.drew := (Keeps.refl _ _).drew
  refine wp_region_plan [(0, 0), (3, 1), (0, 2), (0, 3), (3, 4), (0, 5), (0, 6), (0, 7), (0, 8), (3, 9), (0, 10)] [] [11, 12] [11, 12] (ClsE w0) (by kernel_rfl) (by kernel_rfl) (by kernel_rfl) rfl rfl (ClsE.of hE0) (fun _ _ _ d _ h => by cases d <;> exact h) ?_; simp only [planL, nL]
  refine pR (v := ?_) rfl (fun W => ?_) ?_; rotate_left; (go_simp <;> with_reducible rfl); simp only [nP]
  refine pX (v := ?_) rfl ?_ ?_; rotate_left; (go_simp <;> with_reducible rfl); simp only [nP]
  refine pM _ rfl rfl ?_; simp only [nP, nE]
  refine pR (v := ?_) rfl (fun W => ?_) ?_; rotate_left; (go_simp <;> with_reducible rfl); simp only [nP]
  refine pX (v := ?_) rfl ?_ ?_; rotate_left; (go_simp <;> with_reducible rfl); simp only [nP]
  iterate 4 (refine pR (v := ?_) rfl (fun W => ?_) ?_; rotate_left; (go_simp <;> with_reducible rfl); simp only [nP])
  refine pX (v := ?_) rfl ?_ ?_; rotate_left; (go_simp <;> with_reducible rfl); simp only [nP]
  refine pR (v := ?_) rfl (fun W => ?_) ?_; rotate_left; (go_simp <;> with_reducible rfl); simp only [nP]
  refine plan_nil ?_; simp only [tailL, List.filterMap_cons, List.filterMap_nil, nL]; change wpList _ _ _ (_ :: _ :: []) _ _
  clear cBX zBX lBX
  go_wp2_with fail
  have by0 := (Box.new w0 4 [.bool (index == n)])
  have ey : Ext w0 (w0.alloc (Obj.cells #[.bool (index == n)] 4)) := ((Keeps.refl NoB w0).alloc _)
  have sy : (w0.alloc (Obj.cells #[.bool (index == n)] 4)).heap.size = w0.heap.size + 1 := by simp
  generalize (w0.alloc (Obj.cells #[.bool (index == n)] 4)) = w1 at by0 ey sy ⊢
  have Sy := Lib.hid sy
  clear sy
  rw [HD.out] at by0
  have e01 : Ext w0 w1.drew := ey.drew
  replace HE := Lib.hid (HE.out.ext e01)
  replace HAT := Lib.hid (HAT.out.keeps e01 fun _ _ => noB _)
  replace BX := Lib.hid (BX.out.ext e01)
  refine (must_ok_1 w1.drew _ 403 true true by0.drew rfl).mono ?_
  rintro r w2 ⟨rfl, rfl⟩
  clear ey by0 e01 cn lt
  generalize w1.drew = w2 at HE HAT BX ⊢
  obtain ⟨-, -, -, c28, -, lt⟩ := HAT.out.see
  have HT := Lib.hid HAT.out.talk
  obtain ⟨cBX, zBX⟩ := BX.out.reads
  have lBX := BX.out.lt
  go_wp2_with fail
  have hE0 : Keeps NoB w2 w2.drew := (Keeps.refl _ _).drew
  refine wp_region_plan [(0, 0), (1, 1), (0, 2), (0, 3), (0, 4), (3, 5), (2, 6), (0, 7)] [1] [6, 8, 9] [8, 9] (ClsE w2) (by kernel_rfl) (by kernel_rfl) (by kernel_rfl) rfl rfl (ClsE.of hE0) (fun _ _ _ d _ h => by cases d <;> exact h) ?_; simp only [planL, nL]
  refine pR (v := ?_) rfl (fun W => ?_) ?_; rotate_left; (go_simp <;> with_reducible rfl); simp only [nP]
  refine pL (v := ?_) rfl (fun W => ?_) ?_; rotate_left; (go_simp <;> with_reducible rfl); simp only [nP]
  refine pM _ rfl rfl ?_; simp only [nP, nE]
  iterate 2 (refine pR (v := ?_) rfl (fun W => ?_) ?_; rotate_left; (go_simp <;> with_reducible rfl); simp only [nP])
  refine pX (v := ?_) rfl ?_ ?_; rotate_left; (go_simp <;> with_reducible rfl); simp only [nP]
  refine plan_does rfl (fun K hK => ?_)
  go_wp2_with fail
  refine (talk_len _ tb J.T (HT.out.ext hE0)).mono ?_
  rintro r w3 ⟨rfl, rfl⟩
  refine hK _ _ ⟨ClsE.of (by assumption), ?_⟩; clear hK K; try simp only [nP]
  refine pR (v := ?_) rfl (fun W => ?_) ?_; rotate_left; (go_simp <;> with_reducible rfl); simp only [nP]
  refine plan_nil ?_; simp only [tailL, List.filterMap_cons, List.filterMap_nil, nL]; change wpList _ _ _ (_ :: _ :: []) _ _
  clear cBX zBX lBX
  go_wp2_with fail
  have bz0 := (Box.new w2 4 [.bool (decide (index < (J.T.l.length : Int)))])
  have ez : Ext w2 (w2.alloc (Obj.cells #[.bool (decide (index < (J.T.l.length : Int)))] 4)) := ((Keeps.refl NoB w2).alloc _)
  have sz : (w2.alloc (Obj.cells #[.bool (decide (index < (J.T.l.length : Int)))] 4)).heap.size = w2.heap.size + 1 := by simp
  generalize (w2.alloc (Obj.cells #[.bool (decide (index < (J.T.l.length : Int)))] 4)) = w4 at bz0 ez sz ⊢
  have Sz := Lib.hid sz
  clear sz
  rw [HD2.out] at bz0
  have e24 : Ext w2 w4.drew := ez.drew
  replace HE := Lib.hid (HE.out.ext e24)
  replace HAT := Lib.hid (HAT.out.keeps e24 fun _ _ => noB _)
  replace BX := Lib.hid (BX.out.ext e24)
  refine (must_ok_1 w4.drew _ 405 true true bz0.drew rfl).mono ?_
  rintro r w5 ⟨rfl, rfl⟩
  clear ez bz0 e24 c28 lt hE0
  generalize w4.drew = w5 at HE HAT BX ⊢
  obtain ⟨cBX, zBX⟩ := BX.out.reads
  have lBX := BX.out.lt
  go_wp2_with fail
  clear cBX zBX lBX
  refine (has_any w5 b J index e ⟨Ft, tb, mb, HAT.out⟩ HL.out).mono ?_
  rintro r w6 ⟨rfl, hE6⟩
  rw [HD3.out]
  replace HE := Lib.hid (HE.out.ext hE6)
  replace HAT := Lib.hid (HAT.out.keeps hE6 fun _ _ => noB _)
  replace BX := Lib.hid (BX.out.ext hE6)
  clear hE6
  go_wp2_with fail
  have bu0 := (Box.new w6 4 [.bool false])
  have eu : Ext w6 (w6.alloc (Obj.cells #[.bool false] 4)) := ((Keeps.refl NoB w6).alloc _)
  have su : (w6.alloc (Obj.cells #[.bool false] 4)).heap.size = w6.heap.size + 1 := by simp
  generalize (w6.alloc (Obj.cells #[.bool false] 4)) = w7 at bu0 eu su ⊢
  have Su := Lib.hid su
  clear su
  have HE1 := Lib.hid (HE.out.ext eu)
  refine (must_bad_1 w7 _ 400 false true bu0 rfl).mono ?_
  rintro r w8 ⟨rfl, rfl⟩
  clear eu bu0
  go_wp2_with fail
  exact ⟨rfl, rfl, HE1.out⟩
theorem told_ok {F : Nat → Prop} (w : World) (b : Nat) (J : JA) (kind : Int) (p : Nat) (index : Int) (e : En) (h : JudgeX w F b J) (hp : p < 16) (hl : J.T.l.length ≤ 4096) (hle : index = J.next.getD p 0) (hle2 : index < J.T.l.length) (hle3 : hasB J.T.l index e = true) :
    Calls Tryz.prog 57 #[.pointer (some ⟨b, 0, none⟩), (⟨kind, p, index, e⟩ : Sn).v] w fun r w' => r = .returned (.tuple #[]) ∧ JudgeX w' F b { J with next := J.next.set p (index + 1) } ∧ Keeps F w w' := by
  have h0 : 0 ≤ index := by
    unfold hasB at hle3
    rw [Bool.and_eq_true] at hle3
    exact of_decide_eq_true hle3.1
  have hww : wrap64 (index + 1) = index + 1 := IntWalk.wrap64_in _ (by omega)
  have HWW := Lib.hid hww
  have HD2 := Lib.hid (decide_eq_true hle2)
  have HD3 := Lib.hid hle3
  have HEQ := Lib.hid hle
  clear hle2 hle3 h0 hww
  have HX := Lib.hid h
  have HP := Lib.hid hp
  have HL := Lib.hid hl
  obtain ⟨n, hn⟩ : ∃ n, J.next.getD p 0 = n := ⟨_, rfl⟩
  rw [hn] at hle
  have HD : Hid ((index == n) = true) := Lib.hid (by simpa using hle)
  have HN := Lib.hid hn
  clear hn h hle hl
  unfold Sn.v
  go_enter Tryz.func57, Tryz.ntmps57
  go_wp2_with fail
  have bx0 := (Box.new w 56 [.int .i64 kind, .int .i64 (p : Int), .int .i64 index, .int .i64 e.kind, .int .i64 e.member, .int .i64 e.number, .string (bs e.text)])
  have ex : Ext w (w.alloc (Obj.cells #[.int .i64 kind, .int .i64 (p : Int), .int .i64 index, .int .i64 e.kind, .int .i64 e.member, .int .i64 e.number, .string (bs e.text)] 56)) := ((Keeps.refl NoB w).alloc _)
  have sx : (w.alloc (Obj.cells #[.int .i64 kind, .int .i64 (p : Int), .int .i64 index, .int .i64 e.kind, .int .i64 e.member, .int .i64 e.number, .string (bs e.text)] 56)).heap.size = w.heap.size + 1 := by simp
  generalize (w.alloc (Obj.cells #[.int .i64 kind, .int .i64 (p : Int), .int .i64 index, .int .i64 e.kind, .int .i64 e.member, .int .i64 e.number, .string (bs e.text)] 56)) = w0 at bx0 ex sx ⊢
  have Sx := Lib.hid sx
  clear sx
  have BX := Lib.hid bx0
  have HE := Lib.hid ex
  obtain ⟨Ft, tb, mb, hat⟩ := HX.out.ext ex
  have HAT := Lib.hid hat
  have HFB := Lib.hid hat.fb
  have HLT := Lib.hid (let ⟨_, _, _, h⟩ := HX.out; h.lt b h.fb)
  have cn := hat.next p hp
  rw [HN.out] at cn
  have lt := hat.box.lt
  have g1 : (p : Int) < 16 := by omega
  have g2 : ¬ (p : Int) < 0 := by omega
  clear bx0 ex hat hp
  obtain ⟨cBX, zBX⟩ := BX.out.reads
  have lBX := BX.out.lt
  have hE0 : Keeps NoB w0 w0.drew := (Keeps.refl _ _).drew
  refine wp_region_plan [(0, 0), (3, 1), (0, 2), (0, 3), (3, 4), (0, 5), (0, 6), (0, 7), (0, 8), (3, 9), (0, 10)] [] [11, 12] [11, 12] (ClsE w0) (by kernel_rfl) (by kernel_rfl) (by kernel_rfl) rfl rfl (ClsE.of hE0) (fun _ _ _ d _ h => by cases d <;> exact h) ?_; simp only [planL, nL]
  refine pR (v := ?_) rfl (fun W => ?_) ?_; rotate_left; (go_simp <;> with_reducible rfl); simp only [nP]
  refine pX (v := ?_) rfl ?_ ?_; rotate_left; (go_simp <;> with_reducible rfl); simp only [nP]
  refine pM _ rfl rfl ?_; simp only [nP, nE]
  refine pR (v := ?_) rfl (fun W => ?_) ?_; rotate_left; (go_simp <;> with_reducible rfl); simp only [nP]
  refine pX (v := ?_) rfl ?_ ?_; rotate_left; (go_simp <;> with_reducible rfl); simp only [nP]
  iterate 4 (refine pR (v := ?_) rfl (fun W => ?_) ?_; rotate_left; (go_simp <;> with_reducible rfl); simp only [nP])
  refine pX (v := ?_) rfl ?_ ?_; rotate_left; (go_simp <;> with_reducible rfl); simp only [nP]
  refine pR (v := ?_) rfl (fun W => ?_) ?_; rotate_left; (go_simp <;> with_reducible rfl); simp only [nP]
  refine plan_nil ?_; simp only [tailL, List.filterMap_cons, List.filterMap_nil, nL]; change wpList _ _ _ (_ :: _ :: []) _ _
  clear cBX zBX lBX
  go_wp2_with fail
  have by0 := (Box.new w0 4 [.bool (index == n)])
  have ey : Ext w0 (w0.alloc (Obj.cells #[.bool (index == n)] 4)) := ((Keeps.refl NoB w0).alloc _)
  have sy : (w0.alloc (Obj.cells #[.bool (index == n)] 4)).heap.size = w0.heap.size + 1 := by simp
  generalize (w0.alloc (Obj.cells #[.bool (index == n)] 4)) = w1 at by0 ey sy ⊢
  have Sy := Lib.hid sy
  clear sy
  rw [HD.out] at by0
  have e01 : Ext w0 w1.drew := ey.drew
  replace HE := Lib.hid (HE.out.ext e01)
  replace HAT := Lib.hid (HAT.out.keeps e01 fun _ _ => noB _)
  replace BX := Lib.hid (BX.out.ext e01)
  refine (must_ok_1 w1.drew _ 403 true true by0.drew rfl).mono ?_
  rintro r w2 ⟨rfl, rfl⟩
  clear ey by0 e01 cn lt
  generalize w1.drew = w2 at HE HAT BX ⊢
  obtain ⟨-, -, -, c28, -, lt⟩ := HAT.out.see
  have HT := Lib.hid HAT.out.talk
  obtain ⟨cBX, zBX⟩ := BX.out.reads
  have lBX := BX.out.lt
  go_wp2_with fail
  have hE0 : Keeps NoB w2 w2.drew := (Keeps.refl _ _).drew
  refine wp_region_plan [(0, 0), (1, 1), (0, 2), (0, 3), (0, 4), (3, 5), (2, 6), (0, 7)] [1] [6, 8, 9] [8, 9] (ClsE w2) (by kernel_rfl) (by kernel_rfl) (by kernel_rfl) rfl rfl (ClsE.of hE0) (fun _ _ _ d _ h => by cases d <;> exact h) ?_; simp only [planL, nL]
  refine pR (v := ?_) rfl (fun W => ?_) ?_; rotate_left; (go_simp <;> with_reducible rfl); simp only [nP]
  refine pL (v := ?_) rfl (fun W => ?_) ?_; rotate_left; (go_simp <;> with_reducible rfl); simp only [nP]
  refine pM _ rfl rfl ?_; simp only [nP, nE]
  iterate 2 (refine pR (v := ?_) rfl (fun W => ?_) ?_; rotate_left; (go_simp <;> with_reducible rfl); simp only [nP])
  refine pX (v := ?_) rfl ?_ ?_; rotate_left; (go_simp <;> with_reducible rfl); simp only [nP]
  refine plan_does rfl (fun K hK => ?_)
  go_wp2_with fail
  refine (talk_len _ tb J.T (HT.out.ext hE0)).mono ?_
  rintro r w3 ⟨rfl, rfl⟩
  refine hK _ _ ⟨ClsE.of (by assumption), ?_⟩; clear hK K; try simp only [nP]
  refine pR (v := ?_) rfl (fun W => ?_) ?_; rotate_left; (go_simp <;> with_reducible rfl); simp only [nP]
  refine plan_nil ?_; simp only [tailL, List.filterMap_cons, List.filterMap_nil, nL]; change wpList _ _ _ (_ :: _ :: []) _ _
  clear cBX zBX lBX
  go_wp2_with fail
  have bz0 := (Box.new w2 4 [.bool (decide (index < (J.T.l.length : Int)))])
  have ez : Ext w2 (w2.alloc (Obj.cells #[.bool (decide (index < (J.T.l.length : Int)))] 4)) := ((Keeps.refl NoB w2).alloc _)
  have sz : (w2.alloc (Obj.cells #[.bool (decide (index < (J.T.l.length : Int)))] 4)).heap.size = w2.heap.size + 1 := by simp
  generalize (w2.alloc (Obj.cells #[.bool (decide (index < (J.T.l.length : Int)))] 4)) = w4 at bz0 ez sz ⊢
  have Sz := Lib.hid sz
  clear sz
  rw [HD2.out] at bz0
  have e24 : Ext w2 w4.drew := ez.drew
  replace HE := Lib.hid (HE.out.ext e24)
  replace HAT := Lib.hid (HAT.out.keeps e24 fun _ _ => noB _)
  replace BX := Lib.hid (BX.out.ext e24)
  refine (must_ok_1 w4.drew _ 405 true true bz0.drew rfl).mono ?_
  rintro r w5 ⟨rfl, rfl⟩
  clear ez bz0 e24 c28 lt hE0
  generalize w4.drew = w5 at HE HAT BX ⊢
  obtain ⟨cBX, zBX⟩ := BX.out.reads
  have lBX := BX.out.lt
  go_wp2_with fail
  clear cBX zBX lBX
  refine (has_any w5 b J index e ⟨Ft, tb, mb, HAT.out⟩ HL.out).mono ?_
  rintro r w6 ⟨rfl, hE6⟩
  rw [HD3.out]
  replace HE := Lib.hid (HE.out.ext hE6)
  replace HAT := Lib.hid (HAT.out.keeps hE6 fun _ _ => noB _)
  replace BX := Lib.hid (BX.out.ext hE6)
  clear hE6
  go_wp2_with fail
  have bu0 := (Box.new w6 4 [.bool true])
  have eu : Ext w6 (w6.alloc (Obj.cells #[.bool true] 4)) := ((Keeps.refl NoB w6).alloc _)
  have su : (w6.alloc (Obj.cells #[.bool true] 4)).heap.size = w6.heap.size + 1 := by simp
  generalize (w6.alloc (Obj.cells #[.bool true] 4)) = w7 at bu0 eu su ⊢
  have Su := Lib.hid su
  clear su
  replace HE := Lib.hid (HE.out.ext eu)
  replace HAT := Lib.hid (HAT.out.keeps eu fun _ _ => noB _)
  replace BX := Lib.hid (BX.out.ext eu)
  refine (must_ok_1 w7 _ 400 true true bu0 rfl).mono ?_
  rintro r w8 ⟨rfl, rfl⟩
  clear eu bu0
  have cn := HAT.out.next p HP.out
  rw [← HEQ.out] at cn
  have lt := HAT.out.box.lt
  have zz := HAT.out.box.reads.2
  have n0 : ¬ OneB b w.heap.size := by have := HLT.out; unfold OneB; omega
  obtain ⟨cBX, zBX⟩ := BX.out.reads
  have lBX := BX.out.lt
  go_wp2_with fail
  have hE0 : Keeps (OneB b) w8 w8.drew := (Keeps.refl _ _).drew
  refine wp_region_plan [(0, 0), (0, 1), (3, 2), (0, 3), (0, 4), (0, 5), (0, 6), (3, 7), (0, 8), (0, 9), (0, 10), (0, 11), (0, 12)] [] [13] [13] (ClsK (OneB b) w8) (by kernel_rfl) (by kernel_rfl) (by kernel_rfl) rfl rfl (ClsK.of hE0) (fun _ _ _ d _ h => by cases d <;> exact h) ?_; simp only [planL, nL]
  refine pM _ rfl rfl ?_; simp only [nP, nE]
  refine pR (v := ?_) rfl (fun W => ?_) ?_; rotate_left; (go_simp <;> with_reducible rfl); simp only [nP]
  refine pX (v := ?_) rfl ?_ ?_; rotate_left; (go_simp <;> with_reducible rfl); simp only [nP]
  iterate 4 (refine pR (v := ?_) rfl (fun W => ?_) ?_; rotate_left; (go_simp <;> with_reducible rfl); simp only [nP])
  refine pX (v := ?_) rfl ?_ ?_; rotate_left; (go_simp <;> with_reducible rfl); simp only [nP]
  iterate 5 (refine pR (v := ?_) rfl (fun W => ?_) ?_; rotate_left; (go_simp <;> with_reducible rfl); simp only [nP])
  refine plan_nil ?_; simp only [tailL, List.filterMap_cons, List.filterMap_nil, nL]; change wpList _ _ _ (_ :: []) _ _
  clear cBX zBX lBX
  go_wp2_with fail
  go_end0
  rw [HWW.out]
  have hk : Keeps (OneB b) w8 (w8.setCell ⟨b, 9 + p, none⟩ (.int .i64 (index + 1))) := (Keeps.refl _ _).setOne _ _
  have hat := (HAT.out.putNext p HP.out (index + 1)).keeps (S := NoB) ((Keeps.refl _ _).drew) (fun _ _ => noB _)
  exact ⟨rfl, ⟨Ft, tb, mb, hat⟩, ((Ext.keeps HE.out).then hk (fun i hi h => by obtain rfl : i = b := h; exact HFB.out)).drew⟩
end Go.Proofs.YthhdgjofagdjeaaGreatDoor
end
section
/- What a judge does with a thing seen: an entry was put in. Condition: the judge lies as 'JudgeAt' says. -/
set_option linter.unusedVariables false
set_option linter.unusedSimpArgs false
set_option maxHeartbeats 1000000
set_option maxRecDepth 10000
namespace Go.Proofs.YthhdgjofagdjeaaGreatDoor
open Go.RowKit

theorem put_bad {F : Nat → Prop} (w : World) (b : Nat) (J : JA) (kind who index : Int) (e : En) (h : JudgeX w F b J) (hle : ¬ e.member = who) :
    Calls Tryz.prog 49 #[.pointer (some ⟨b, 0, none⟩), (⟨kind, who, index, e⟩ : Sn).v] w fun r w' => r = .panicked [{ v := .iface 26 (.int .i64 406), recovered := false }] ∧ Ext w w' := by
  have HX := Lib.hid h
  have HD : Hid ((e.member == who) = false) := Lib.hid (by simpa using hle)
  clear h hle
  unfold Sn.v
  go_enter Tryz.func49, Tryz.ntmps49
  go_wp2_with fail
  have bx0 := ((Box.new w 56 [.int .i64 kind, .int .i64 who, .int .i64 index, .int .i64 e.kind, .int .i64 e.member, .int .i64 e.number, .string (bs e.text)]).alloc (Obj.cells #[.bool (e.member == who)] 4))
  have bx1 := (Box.new (w.alloc (Obj.cells #[.int .i64 kind, .int .i64 who, .int .i64 index, .int .i64 e.kind, .int .i64 e.member, .int .i64 e.number, .string (bs e.text)] 56)) 4 [.bool (e.member == who)])
  have ex : Ext w ((w.alloc (Obj.cells #[.int .i64 kind, .int .i64 who, .int .i64 index, .int .i64 e.kind, .int .i64 e.member, .int .i64 e.number, .string (bs e.text)] 56)).alloc (Obj.cells #[.bool (e.member == who)] 4)) := (((Keeps.refl NoB w).alloc _).alloc _)
  have sx : ((w.alloc (Obj.cells #[.int .i64 kind, .int .i64 who, .int .i64 index, .int .i64 e.kind, .int .i64 e.member, .int .i64 e.number, .string (bs e.text)] 56)).alloc (Obj.cells #[.bool (e.member == who)] 4)).heap.size = w.heap.size + 2 := by simp
  simp only [World.size_alloc] at bx1
  generalize ((w.alloc (Obj.cells #[.int .i64 kind, .int .i64 who, .int .i64 index, .int .i64 e.kind, .int .i64 e.member, .int .i64 e.number, .string (bs e.text)] 56)).alloc (Obj.cells #[.bool (e.member == who)] 4)) = w1 at bx0 bx1 ex sx ⊢
  have Sx := Lib.hid sx
  clear sx
  have BX := Lib.hid bx0
  have HE := Lib.hid ex
  rw [HD.out] at bx1
  refine (must_bad_1 w1 _ 406 false true bx1 rfl).mono ?_
  rintro r w2 ⟨rfl, rfl⟩
  clear ex bx0 bx1
  go_wp2_with fail
  exact ⟨rfl, rfl, HE.out⟩
def JA.putIn (J : JA) (e : En) : JA := { J with put := if e ∈ J.put then J.put else J.put ++ [e] }
theorem put_ok {F : Nat → Prop} (w : World) (b : Nat) (J : JA) (kind who index : Int) (e : En) (h : JudgeX w F b J) (ho : OkE e) (hle : e.member = who) :
    Calls Tryz.prog 49 #[.pointer (some ⟨b, 0, none⟩), (⟨kind, who, index, e⟩ : Sn).v] w fun r w' => r = .returned (.tuple #[]) ∧ JudgeX w' F b (J.putIn e) ∧ Keeps F w w' := by
  have HO := Lib.hid ho
  clear ho
  have HX := Lib.hid h
  have HD : Hid ((e.member == who) = true) := Lib.hid (by simpa using hle)
  clear h hle
  unfold Sn.v
  go_enter Tryz.func49, Tryz.ntmps49
  go_wp2_with fail
  have bx0 := ((Box.new w 56 [.int .i64 kind, .int .i64 who, .int .i64 index, .int .i64 e.kind, .int .i64 e.member, .int .i64 e.number, .string (bs e.text)]).alloc (Obj.cells #[.bool (e.member == who)] 4))
  have bx1 := (Box.new (w.alloc (Obj.cells #[.int .i64 kind, .int .i64 who, .int .i64 index, .int .i64 e.kind, .int .i64 e.member, .int .i64 e.number, .string (bs e.text)] 56)) 4 [.bool (e.member == who)])
  have ex : Ext w ((w.alloc (Obj.cells #[.int .i64 kind, .int .i64 who, .int .i64 index, .int .i64 e.kind, .int .i64 e.member, .int .i64 e.number, .string (bs e.text)] 56)).alloc (Obj.cells #[.bool (e.member == who)] 4)) := (((Keeps.refl NoB w).alloc _).alloc _)
  have sx : ((w.alloc (Obj.cells #[.int .i64 kind, .int .i64 who, .int .i64 index, .int .i64 e.kind, .int .i64 e.member, .int .i64 e.number, .string (bs e.text)] 56)).alloc (Obj.cells #[.bool (e.member == who)] 4)).heap.size = w.heap.size + 2 := by simp
  simp only [World.size_alloc] at bx1
  generalize ((w.alloc (Obj.cells #[.int .i64 kind, .int .i64 who, .int .i64 index, .int .i64 e.kind, .int .i64 e.member, .int .i64 e.number, .string (bs e.text)] 56)).alloc (Obj.cells #[.bool (e.member == who)] 4)) = w1 at bx0 bx1 ex sx ⊢
  have Sx := Lib.hid sx
  clear sx
  have BX := Lib.hid bx0
  have HE := Lib.hid ex
  rw [HD.out] at bx1
  refine (must_ok_1 w1 _ 406 true true bx1 rfl).mono ?_
  rintro r w2 ⟨rfl, rfl⟩
  obtain ⟨Ft, tb, mb, hat⟩ := HX.out.ext ex
  have HAT := Lib.hid hat
  have hstep : ∃ w3, (Instr.mapUpdate 43 (.map (some mb)) e.v (.bool true)).run Tryz.prog w2.drew = .ok () w3 ∧ EnSet w3 mb (J.putIn e).put ∧ Keeps (OneB mb) w2.drew w3 := by
    unfold JA.putIn
    by_cases hm : e ∈ J.put
    · rw [if_pos hm]
      exact run_enput_same (hat.map.ext (Ext.drew0 _)) HO.out hm
    · rw [if_neg hm]
      exact run_enput (hat.map.ext (Ext.drew0 _)) HO.out hm
  obtain ⟨w3, hr3, hs3, hk3⟩ := hstep
  unfold En.v at hr3
  have HS3 := Lib.hid hs3
  have HK3 := Lib.hid hk3
  obtain ⟨-, -, -, -, c29, lt⟩ := HAT.out.see
  clear ex bx0 bx1 hat hs3 hk3
  obtain ⟨cBX, zBX⟩ := BX.out.reads
  have lBX := BX.out.lt
  go_wp2_with fail
  have hE0 : Keeps NoB w2 w2.drew := (Keeps.refl _ _).drew
  refine wp_region_plan [(0, 0), (0, 1), (0, 2), (3, 3), (0, 4), (3, 5)] [] [6] [6] (ClsE w2) (by kernel_rfl) (by kernel_rfl) (by kernel_rfl) rfl rfl (ClsE.of hE0) (fun _ _ _ d _ h => by cases d <;> exact h) ?_; simp only [planL, nL]
  refine pM _ rfl rfl ?_; simp only [nP, nE]
  iterate 2 (refine pR (v := ?_) rfl (fun W => ?_) ?_; rotate_left; (go_simp <;> with_reducible rfl); simp only [nP])
  refine pX (v := ?_) rfl ?_ ?_; rotate_left; (go_simp <;> with_reducible rfl); simp only [nP]
  refine pR (v := ?_) rfl (fun W => ?_) ?_; rotate_left; (go_simp <;> with_reducible rfl); simp only [nP]
  refine pX (v := ?_) rfl ?_ ?_; rotate_left; (go_simp <;> with_reducible rfl); simp only [nP]
  refine plan_nil ?_; simp only [tailL, List.filterMap_cons, List.filterMap_nil, nL]; change wpList _ _ _ (_ :: []) _ _
  clear cBX zBX lBX
  go_wp2_with fail
  go_end0
  have hk : Keeps (OneB mb) w2 w3 := (Ext.keeps (Ext.drew0 w2)).trans HK3.out
  have hA := HAT.out
  refine ⟨rfl, ⟨Ft, tb, mb, { box := hA.box.keeps hk (fun h => hA.bm h), talk := hA.talk.keeps hk (fun k hF h9 => hA.nm (by have h8 : k = mb := h9; rw [← h8]; exact hF)), map := HS3.out, fb := hA.fb, fm := hA.fm, ft := hA.ft, nb := hA.nb, nm := hA.nm, bm := hA.bm, lt := fun k hF => Nat.lt_of_lt_of_le (hA.lt k hF) hk.size, l9 := hA.l9, l16 := hA.l16 }⟩, (Ext.keeps HE.out).then hk (fun i hi h => by obtain rfl : i = mb := h; exact hA.fm)⟩
end Go.Proofs.YthhdgjofagdjeaaGreatDoor
end
section
/- A talk and a judge as things in memory. No condition. -/
set_option linter.unusedVariables false
set_option linter.unusedSimpArgs false
namespace Go.Proofs.YthhdgjofagdjeaaGreatDoor
open Go.RowKit

def talkR (b : Nat) (T : TA) : Res := anyR (fun F w => TalkX w F b T) (fun h hk hs => h.keeps hk hs) (fun h => let ⟨_, h⟩ := h; h.lt)
theorem talkR_tag {b : Nat} {T : TA} : (talkR b T).tag = none := rfl
theorem EnSet.box {w : World} {m : Nat} {D : List En} (h : EnSet w m D) : m < w.heap.size := h.lt
def enR (m : Nat) (D : List En) : Res := anyR (fun F w => (∀ k, F k ↔ k = m) ∧ EnSet w m D) (fun h hk hs => ⟨h.1, h.2.keeps hk (hs m ((h.1 m).2 rfl))⟩) (fun h k hk => by rw [(h.1 k).1 hk]; exact h.2.lt)
theorem enR_tag {m : Nat} {D : List En} : (enR m D).tag = none := rfl
def judgeR (b : Nat) (J : JA) : Res := anyR (fun F w => JudgeX w F b J) (fun h hk hs => h.keeps hk hs) (fun h => let ⟨_, _, _, h⟩ := h; h.lt)
theorem judgeR_tag {b : Nat} {J : JA} : (judgeR b J).tag = none := rfl
section
variable {F G : Nat → Prop} {w0 w : World} {L : List Res} {b tb mb : Nat} {J : JA}
theorem Mem.openJ (h : Mem F w0 w (judgeR b J :: L)) : ∃ x : Nat × Nat, (J.told.length = 9 ∧ J.next.length = 16) ∧ Mem F w0 w (cellsR b 45 (J.cells x.1 x.2) :: talkR x.1 J.T :: enR x.2 J.put :: L) := by
  have hl : J.told.length = 9 ∧ J.next.length = 16 := h.fact fun A ⟨_, _, _, h⟩ => ⟨h.l9, h.l16⟩
  obtain ⟨x, hx⟩ := h.openE (M := fun x : Nat × Nat => [cellsR b 45 (J.cells x.1 x.2), talkR x.1 J.T, enR x.2 J.put]) (fun A ⟨Ft, tb, mb, h⟩ =>
    ⟨(tb, mb), fun k => k = b ∨ Ft k ∨ k = mb, ⟨fun k => k = b, fun k => Ft k ∨ k = mb, ⟨fun _ => Iff.rfl, h.box⟩, ⟨Ft, fun k => k = mb, h.talk, ⟨fun k => k = mb, fun _ => False, ⟨fun _ => Iff.rfl, h.map⟩, fun _ h => h, fun _ _ h => h, fun k => ⟨.inl, fun h => h.resolve_right id⟩⟩, fun k hk h9 => h.nm (by rw [← h9]; exact hk), fun k => Iff.rfl⟩, fun k hk h9 => by
      rcases h9 with h9 | h9
      · exact h.nb (by rw [← hk]; exact h9)
      · exact h.bm (by rw [← hk, ← h9]), fun k => Iff.rfl⟩, fun k hk => by
      rcases hk with rfl | hk | rfl
      · exact h.fb
      · exact h.ft k hk
      · exact h.fm⟩)
  exact ⟨x, hl, hx⟩
theorem Mem.closeJ (h : Mem F w0 w (cellsR b 45 (J.cells tb mb) :: talkR tb J.T :: enR mb J.put :: L)) (h9 : J.told.length = 9) (h16 : J.next.length = 16) : Mem F w0 w (judgeR b J :: L) := by
  refine Mem.close (L1 := [cellsR b 45 (J.cells tb mb), talkR tb J.T, enR mb J.put]) h fun A ⟨B, C, ⟨b1, b2⟩, ⟨D, E, d1, ⟨G, H, ⟨g1, g2⟩, g3, g4, g5⟩, d3, d4⟩, c3, c4⟩ => ?_
  have eA : ∀ k, A k ↔ k = b ∨ D k ∨ k = mb := fun k => by
    rw [c4 k, b1 k, d4 k, g5 k, g1 k]
    constructor
    · rintro (h | h | h | h)
      · exact .inl h
      · exact .inr (.inl h)
      · exact .inr (.inr h)
      · exact (g3 k h).elim
    · rintro (h | h | h)
      · exact .inl h
      · exact .inr (.inl h)
      · exact .inr (.inr (.inl h))
  refine ⟨D, tb, mb, b2, d1, g2, (eA b).2 (.inl rfl), (eA mb).2 (.inr (.inr rfl)), fun k hk => (eA k).2 (.inr (.inl hk)), fun h => c3 b ((b1 b).2 rfl) ((d4 b).2 (.inl h)), fun h => d3 mb h ((g5 mb).2 (.inl ((g1 mb).2 rfl))), fun h => c3 b ((b1 b).2 rfl) ((d4 b).2 (.inr ((g5 b).2 (.inl ((g1 b).2 h))))), fun k hk => ?_, h9, h16⟩
  rcases (eA k).1 hk with rfl | h | rfl
  · exact b2.lt
  · obtain ⟨_, d⟩ := d1
    exact d.lt k h
  · exact g2.lt
theorem Mem.shutJ {L1 L2 L3 : List Res} (h : Mem F w0 w L) (l9 : J.told.length = 9) (l16 : J.next.length = 16) (p1 : Pick L (enR mb J.put) L1) (p2 : Pick L1 (talkR tb J.T) L2) (p3 : Pick L2 (cellsR b 45 (J.cells tb mb)) L3) : Upd F w0 w (judgeR b J) :=
  (Mem.closeJ (((h.pick p1).pick (.there p2)).pick (.there (.there p3))) l9 l16).upd
end
end Go.Proofs.YthhdgjofagdjeaaGreatDoor
end
section
/- What a judge does with a thing seen: a place told a line. Condition: the judge lies as 'JudgeX' says; the place is one of nine; of an entry that says something, that text.Check answers as the document's. -/
set_option linter.unusedVariables false
set_option linter.unusedSimpArgs false
set_option maxHeartbeats 2000000
set_option maxRecDepth 10000
namespace Go.Proofs.YthhdgjofagdjeaaGreatDoor
open Go.RowKit

def errE (n : Int) : Ending := .panicked [{ v := .iface 26 (.int .i64 n), recovered := false }]
def mustE (x : Bool) (n : Int) : Ending := if x then .returned (.tuple #[]) else errE n
def doneE (n : Int) : Ending := if n = 0 then .returned (.tuple #[]) else errE n
theorem must_1 (w : World) (b : Nat) (n : Int) (x : Bool) (hb : Box w b 4 [.bool x]) : Calls Tryz.prog 50 #[.int .i64 n, .slice (some ⟨b, 0, none⟩) 1 1] w fun e w' => e = mustE x n ∧ w' = w := by
  cases x
  · exact must_bad_1 w b n false true hb rfl
  · exact must_ok_1 w b n true true hb rfl
theorem must_2 (w : World) (b : Nat) (n : Int) (x y : Bool) (hb : Box w b 4 [.bool x, .bool y]) : Calls Tryz.prog 50 #[.int .i64 n, .slice (some ⟨b, 0, none⟩) 2 2] w fun e w' => e = mustE (x && y) n ∧ w' = w := by
  cases h : x && y
  · exact must_bad_2 w b n x y hb h
  · exact must_ok_2 w b n x y hb h
theorem JA.setTold (J : JA) (tb mb : Nat) (h9 : J.told.length = 9) (p : Nat) (hp : p < 9) (n : Int) : (J.cells tb mb).set p (.int .i64 n) = ({ J with told := J.told.set p n } : JA).cells tb mb := by
  unfold JA.cells
  rw [List.set_append_left _ _ (by rw [List.length_map]; omega), List.map_set]
  rfl
theorem JA.setNext (J : JA) (tb mb : Nat) (h9 : J.told.length = 9) (h16 : J.next.length = 16) (p : Nat) (hp : p < 16) (n : Int) : (J.cells tb mb).set (9 + p) (.int .i64 n) = ({ J with next := J.next.set p n } : JA).cells tb mb := by
  have a1 : (J.told.map iV).length = 9 := by rw [List.length_map, h9]
  have a2 : (J.next.map iV).length = 16 := by rw [List.length_map, h16]
  unfold JA.cells
  rw [List.set_append_right _ _ (by omega), a1, show 9 + p - 9 = p by omega, List.set_append_left _ _ (by omega), List.map_set]
  rfl
def lineR (J : JA) (p : Nat) (index : Int) (e : En) : JA × Int :=
  if ¬ index = J.told.getD p 0 then (J, 403)
  else if index < (J.T.l.length : Int) then (if hasB J.T.l index e = true then ({ J with told := J.told.set p (index + 1) }, 0) else (J, 400))
  else if ¬ e ∈ J.put then (J, 401)
  else if J.T.slot < 4096 ∧ (enB e && (countsR J.T e).2) = true then ({ J with T := J.T.put e, told := J.told.set p (index + 1) }, 0) else (J, 402)
theorem line_any {F : Nat → Prop} (w : World) (b : Nat) (J : JA) (kind : Int) (p : Nat) (index : Int) (e : En) (h : JudgeX w F b J) (hp : p < 9) (hi0 : 0 ≤ index) (hi1 : J.told.getD p 0 ≤ J.T.l.length) (hl : J.T.l.length ≤ 4096) (hs0 : 0 ≤ J.T.slot) (ho : OkE e) (hI : I64 e.kind)
    (hC : e.kind = 4 → ∀ w1, Keeps F w w1 → Calls Tryz.prog 72 #[.string (bs e.text)] w1 fun r w' => r = .returned (.int .i64 (chk e.text : Int)) ∧ Ext w1 w') :
    Calls Tryz.prog 51 #[.pointer (some ⟨b, 0, none⟩), (⟨kind, p, index, e⟩ : Sn).v] w fun r w' => r = doneE (lineR J p index e).2 ∧ Upd F w w' (judgeR b (lineR J p index e).1) := by
  obtain ⟨⟨tb, mb⟩, ⟨l9, l16⟩, M⟩ := (Mem.start (r := judgeR b J) h).openJ
  have HM := Lib.hid M
  clear M h
  obtain ⟨h1, -, c25, c26, c27, c28, c29⟩ := J.at tb mb l9 l16
  obtain ⟨n, hn⟩ : ∃ n, J.told.getD p 0 = n := ⟨_, rfl⟩
  have cp : (J.cells tb mb)[p]? = some (.int .i64 n) := by
    rw [h1 p hp, ← hn, List.getD_eq_getElem?_getD, List.getElem?_eq_getElem (by omega)]; rfl
  rw [hn] at hi1
  have g1 : (p : Int) < 9 := by omega
  have g2 : ¬ (p : Int) < 0 := by omega
  have HX := Lib.hid (show _ ∧ _ ∧ _ ∧ _ ∧ _ ∧ _ ∧ _ from ⟨hp, hi0, hi1, hl, hs0, ho, hI⟩)
  have HN := Lib.hid hn
  have HC := Lib.hid hC
  have HL := Lib.hid (show _ ∧ _ from ⟨l9, l16⟩)
  clear h1 hp hi0 hi1 hl hs0 ho hI hC l9 l16 hn c25 c26 c27
  unfold Sn.v
  go_enter Tryz.func51, Tryz.ntmps51
  have fM := HM.out.fa
  go_wp2_with fail
  all_goals clear fM
  refine nxt HM fun w0 M => ?_
  clear HM; have HM := M; clear M
  have fM := HM.out.fa
  have hE0 : Keeps NoB w0 w0.drew := (Keeps.refl _ _).drew
  refine wp_region_plan [(0, 0), (3, 1), (0, 2), (0, 3), (3, 4), (0, 5), (0, 6), (0, 7), (0, 8), (3, 9), (0, 10)] [] [11, 12] [11, 12] (ClsE w0) (by kernel_rfl) (by kernel_rfl) (by kernel_rfl) rfl rfl (ClsE.of hE0) (fun _ _ _ d _ h => by cases d <;> exact h) ?_; simp only [planL, nL]
  refine pR (v := ?_) rfl (fun W => ?_) ?_; rotate_left; (go_simp <;> with_reducible rfl); simp only [nP]
  refine pX (v := ?_) rfl ?_ ?_; rotate_left; (go_simp <;> with_reducible rfl); simp only [nP]
  refine pM _ rfl rfl ?_; simp only [nP, nE]
  refine pR (v := ?_) rfl (fun W => ?_) ?_; rotate_left; (go_simp <;> with_reducible rfl); simp only [nP]
  refine pX (v := ?_) rfl ?_ ?_; rotate_left; (go_simp <;> with_reducible rfl); simp only [nP]
  iterate 4 (refine pR (v := ?_) rfl (fun W => ?_) ?_; rotate_left; (go_simp <;> with_reducible rfl); simp only [nP])
  refine pX (v := ?_) rfl ?_ ?_; rotate_left; (go_simp <;> with_reducible rfl); simp only [nP]
  refine pR (v := ?_) rfl (fun W => ?_) ?_; rotate_left; (go_simp <;> with_reducible rfl); simp only [nP]
  refine plan_nil ?_; simp only [tailL, List.filterMap_cons, List.filterMap_nil, nL]; change wpList _ _ _ (_ :: _ :: []) _ _
  go_wp2_with fail
  clear fM
  refine nxt HM fun w1 M => ?_
  clear HM; have HM := M; clear M
  obtain ⟨Ahb, hb⟩ := HM.out.get (r := cellsR w0.heap.size 4 [.bool (index == n)]) (by with_reducible repeat first | exact ph | apply pt)
  refine (must_1 w1 _ 403 _ hb.2).mono ?_
  rintro r w' ⟨rfl, rfl⟩
  replace HM := Lib.hid (HM.out.pick (r := cellsR w0.heap.size 4 [.bool (index == n)]) (by with_reducible repeat first | exact ph | apply pt)).drop
  clear hb
  cases hx : index == n
  · simp only [mustE, Bool.false_eq_true, if_false, errE]
    go_wp2_with fail
    have hq : lineR J p index e = (J, 403) := by unfold lineR; rw [if_pos (by rw [HN.out]; simpa using hx)]
    rw [hq]
    exact ⟨rfl, rfl, HM.out.shutJ (J := J) (tb := tb) (mb := mb) HL.out.1 HL.out.2 (by with_reducible repeat first | exact ph | apply pt) (by with_reducible repeat first | exact ph | apply pt) (by with_reducible repeat first | exact ph | apply pt)⟩
  obtain rfl : index = n := by simpa using hx
  clear hx
  simp only [mustE, if_true]
  have fM := HM.out.fa
  go_wp2_with fail
  all_goals clear fM
  have e1 : J.told.getD p 0 = index := HN.out
  obtain ⟨hp, hi0, hi1, hl, hs0, ho, hI⟩ := HX.out
  have hww : wrap64 (index + 1) = index + 1 := IntWalk.wrap64_in _ (by omega)
  have HW := Lib.hid hww
  clear hww
  by_cases h2 : index < (J.T.l.length : Int)
  · clear hp hi0 hi1 hs0 ho hI e1
    refine nxt HM fun w2 M => ?_
    clear HM; have HM := M; clear M
    obtain ⟨Aht, ht⟩ := HM.out.get (r := talkR tb J.T) (by with_reducible repeat first | exact ph | apply pt)
    have HT := Lib.hid ht
    clear ht
    have fM := HM.out.fa
    have hE0 : Keeps NoB w2 w2.drew := (Keeps.refl _ _).drew
    refine wp_region_plan [(0, 0), (1, 1), (0, 2), (0, 3), (0, 4), (3, 5), (2, 6), (0, 7)] [1] [6] [] (ClsE w2) (by kernel_rfl) (by kernel_rfl) (by kernel_rfl) rfl rfl (ClsE.of hE0) (fun _ _ _ d _ h => by cases d <;> exact h) ?_; simp only [planL, nL]
    refine pR (v := ?_) rfl (fun W => ?_) ?_; rotate_left; (go_simp <;> with_reducible rfl); simp only [nP]
    refine pL (v := ?_) rfl (fun W => ?_) ?_; rotate_left; (go_simp <;> with_reducible rfl); simp only [nP]
    refine pM _ rfl rfl ?_; simp only [nP, nE]
    iterate 2 (refine pR (v := ?_) rfl (fun W => ?_) ?_; rotate_left; (go_simp <;> with_reducible rfl); simp only [nP])
    refine pX (v := ?_) rfl ?_ ?_; rotate_left; (go_simp <;> with_reducible rfl); simp only [nP]
    refine plan_does rfl (fun K hK => ?_)
    go_wp2_with fail
    refine (talk_len _ tb J.T (HT.out.ext hE0)).mono ?_
    rintro r w3 ⟨rfl, rfl⟩
    refine hK _ _ ⟨ClsE.of (by assumption), ?_⟩; clear hK K; try simp only [nP]
    refine pR (v := ?_) rfl (fun W => ?_) ?_; rotate_left; (go_simp <;> with_reducible rfl); simp only [nP]
    refine plan_nil ?_; simp only [tailL, List.filterMap_nil]
    go_wp2_with fail
    clear fM
    clear hE0
    refine nxt HM fun w3 M => ?_
    clear HM; have HM := M; clear M
    obtain ⟨A, hA, -⟩ := HM.out.shutJ (b := b) (J := J) (tb := tb) (mb := mb) HL.out.1 HL.out.2 (by with_reducible repeat first | exact ph | apply pt) (by with_reducible repeat first | exact ph | apply pt) (by with_reducible repeat first | exact ph | apply pt)
    refine (has_any w3 b J index e hA hl).mono ?_
    rintro r w4 ⟨rfl, hE4⟩
    replace HM := Lib.hid (HM.out.ext hE4)
    clear hE4 hl hA A HT
    have fM := HM.out.fa
    go_wp2_with fail
    all_goals clear fM
    refine nxt HM fun w5 M => ?_
    clear HM; have HM := M; clear M
    obtain ⟨Ahb, hb⟩ := HM.out.get (r := cellsR w4.heap.size 4 [.bool (hasB J.T.l index e)]) (by with_reducible repeat first | exact ph | apply pt)
    refine (must_1 w5 _ 400 _ hb.2).mono ?_
    rintro r w' ⟨rfl, rfl⟩
    replace HM := Lib.hid (HM.out.pick (r := cellsR w4.heap.size 4 [.bool (hasB J.T.l index e)]) (by with_reducible repeat first | exact ph | apply pt)).drop
    clear hb
    cases hx : hasB J.T.l index e
    · simp only [mustE, Bool.false_eq_true, if_false, errE]
      go_wp2_with fail
      have hq : lineR J p index e = (J, 400) := by unfold lineR; rw [if_neg (by simpa using HN.out.symm), if_pos h2, if_neg (by rw [hx]; simp)]
      rw [hq]
      exact ⟨rfl, rfl, HM.out.shutJ (J := J) (tb := tb) (mb := mb) HL.out.1 HL.out.2 (by with_reducible repeat first | exact ph | apply pt) (by with_reducible repeat first | exact ph | apply pt) (by with_reducible repeat first | exact ph | apply pt)⟩
    simp only [mustE, if_true]
    have hq : lineR J p index e = ({ J with told := J.told.set p (index + 1) }, 0) := by unfold lineR; rw [if_neg (by simpa using HN.out.symm), if_pos h2, if_pos hx]
    have HQ := Lib.hid hq
    clear h2 hx hq
    go_wp2_with fail
    refine nxt HM fun w6 M => ?_
    clear HM; have HM := M; clear M
    have fM := HM.out.fa
    have hE0 : Keeps (OneB b) w6 w6.drew := (Keeps.refl _ _).drew
    refine wp_region_plan [(0, 0), (0, 1), (3, 2), (0, 3), (0, 4), (0, 5), (0, 6), (3, 7), (0, 8), (0, 9), (0, 10), (0, 11), (0, 12)] [] [13] [13] (ClsK (OneB b) w6) (by kernel_rfl) (by kernel_rfl) (by kernel_rfl) rfl rfl (ClsK.of hE0) (fun _ _ _ d _ h => by cases d <;> exact h) ?_; simp only [planL, nL]
    refine pM _ rfl rfl ?_; simp only [nP, nE]
    refine pR (v := ?_) rfl (fun W => ?_) ?_; rotate_left; (go_simp <;> with_reducible rfl); simp only [nP]
    refine pX (v := ?_) rfl ?_ ?_; rotate_left; (go_simp <;> with_reducible rfl); simp only [nP]
    iterate 4 (refine pR (v := ?_) rfl (fun W => ?_) ?_; rotate_left; (go_simp <;> with_reducible rfl); simp only [nP])
    refine pX (v := ?_) rfl ?_ ?_; rotate_left; (go_simp <;> with_reducible rfl); simp only [nP]
    iterate 5 (refine pR (v := ?_) rfl (fun W => ?_) ?_; rotate_left; (go_simp <;> with_reducible rfl); simp only [nP])
    refine plan_nil ?_; simp only [tailL, List.filterMap_cons, List.filterMap_nil, nL]; change wpList _ _ _ (_ :: []) _ _
    go_wp2_with fail
    clear fM
    clear hE0
    go_end0
    rw [HQ.out, HW.out]
    refine ⟨rfl, ?_⟩
    refine nxt HM fun w7 M => ?_
    clear HM; have HM := M; clear M
    rw [J.setTold tb mb HL.out.1 p HX.out.1] at HM
    exact (HM.out.shutJ (J := { J with told := J.told.set p (index + 1) }) (tb := tb) (mb := mb) (by simpa using HL.out.1) HL.out.2 (by with_reducible repeat first | exact ph | apply pt) (by with_reducible repeat first | exact ph | apply pt) (by with_reducible repeat first | exact ph | apply pt))
  · have HE2 := Lib.hid h2
    have HD := Lib.hid (show ¬ ¬ index = J.told.getD p 0 from fun h => h e1.symm)
    clear hp hi0 hi1 hs0 ho hI e1 hl
    refine nxt HM fun w2 M => ?_
    clear HM; have HM := M; clear M
    obtain ⟨Aht, ht⟩ := HM.out.get (r := talkR tb J.T) (by with_reducible repeat first | exact ph | apply pt)
    have HT := Lib.hid ht
    clear ht
    have fM := HM.out.fa
    have hE0 : Keeps NoB w2 w2.drew := (Keeps.refl _ _).drew
    refine wp_region_plan [(0, 0), (1, 1), (0, 2), (0, 3), (0, 4), (3, 5), (2, 6), (0, 7)] [1] [6] [] (ClsE w2) (by kernel_rfl) (by kernel_rfl) (by kernel_rfl) rfl rfl (ClsE.of hE0) (fun _ _ _ d _ h => by cases d <;> exact h) ?_; simp only [planL, nL]
    refine pR (v := ?_) rfl (fun W => ?_) ?_; rotate_left; (go_simp <;> with_reducible rfl); simp only [nP]
    refine pL (v := ?_) rfl (fun W => ?_) ?_; rotate_left; (go_simp <;> with_reducible rfl); simp only [nP]
    refine pM _ rfl rfl ?_; simp only [nP, nE]
    iterate 2 (refine pR (v := ?_) rfl (fun W => ?_) ?_; rotate_left; (go_simp <;> with_reducible rfl); simp only [nP])
    refine pX (v := ?_) rfl ?_ ?_; rotate_left; (go_simp <;> with_reducible rfl); simp only [nP]
    refine plan_does rfl (fun K hK => ?_)
    go_wp2_with fail
    refine (talk_len _ tb J.T (HT.out.ext hE0)).mono ?_
    rintro r w3 ⟨rfl, rfl⟩
    refine hK _ _ ⟨ClsE.of (by assumption), ?_⟩; clear hK K; try simp only [nP]
    refine pR (v := ?_) rfl (fun W => ?_) ?_; rotate_left; (go_simp <;> with_reducible rfl); simp only [nP]
    refine plan_nil ?_; simp only [tailL, List.filterMap_nil]
    go_wp2_with fail
    clear fM
    clear hE0 h2 HT
    refine nxt HM fun w3 M => ?_
    clear HM; have HM := M; clear M
    obtain ⟨Ahm, hm⟩ := HM.out.get (r := enR mb J.put) (by with_reducible repeat first | exact ph | apply pt)
    have hk := run_enhas (hm.2.ext (Ext.drew0 w3)) HX.out.2.2.2.2.2.1
    unfold En.v at hk
    clear hm
    have fM := HM.out.fa
    have hE0 : Keeps NoB w3 w3.drew := (Keeps.refl _ _).drew
    refine wp_region_plan [(0, 0), (0, 1), (0, 2), (3, 3), (0, 4), (3, 5), (3, 6)] [] [7, 8] [7, 8] (ClsE w3) (by kernel_rfl) (by kernel_rfl) (by kernel_rfl) rfl rfl (ClsE.of hE0) (fun _ _ _ d _ h => by cases d <;> exact h) ?_; simp only [planL, nL]
    refine pM _ rfl rfl ?_; simp only [nP, nE]
    iterate 2 (refine pR (v := ?_) rfl (fun W => ?_) ?_; rotate_left; (go_simp <;> with_reducible rfl); simp only [nP])
    refine pX (v := ?_) rfl ?_ ?_; rotate_left; (go_simp <;> with_reducible rfl); simp only [nP]
    refine pR (v := ?_) rfl (fun W => ?_) ?_; rotate_left; (go_simp <;> with_reducible rfl); simp only [nP]
    iterate 2 (refine pX (v := ?_) rfl ?_ ?_; rotate_left; (go_simp <;> with_reducible rfl); simp only [nP])
    refine plan_nil ?_; simp only [tailL, List.filterMap_cons, List.filterMap_nil, nL]; change wpList _ _ _ (_ :: _ :: []) _ _
    go_wp2_with fail
    clear fM
    clear hk hE0
    refine nxt HM fun w4 M => ?_
    clear HM; have HM := M; clear M
    obtain ⟨Ahb, hb⟩ := HM.out.get (r := cellsR w3.heap.size 4 [.bool (decide (e ∈ J.put))]) (by with_reducible repeat first | exact ph | apply pt)
    refine (must_1 w4 _ 401 _ hb.2).mono ?_
    rintro r w' ⟨rfl, rfl⟩
    replace HM := Lib.hid (HM.out.pick (r := cellsR w3.heap.size 4 [.bool (decide (e ∈ J.put))]) (by with_reducible repeat first | exact ph | apply pt)).drop
    clear hb
    by_cases hx : e ∈ J.put
    case neg =>
      rw [decide_eq_false hx]
      simp only [mustE, Bool.false_eq_true, if_false, errE]
      go_wp2_with fail
      have hq : lineR J p index e = (J, 401) := by unfold lineR; rw [if_neg HD.out, if_neg (by have := HE2.out; omega), if_pos hx]
      rw [hq]
      exact ⟨rfl, rfl, HM.out.shutJ (J := J) (tb := tb) (mb := mb) HL.out.1 HL.out.2 (by with_reducible repeat first | exact ph | apply pt) (by with_reducible repeat first | exact ph | apply pt) (by with_reducible repeat first | exact ph | apply pt)⟩
    rw [decide_eq_true hx]
    simp only [mustE, if_true]
    have HP := Lib.hid hx
    clear hx
    go_wp2_with fail
    refine nxt HM fun w5 M => ?_
    clear HM; have HM := M; clear M
    obtain ⟨Aht, ht⟩ := HM.out.get (r := talkR tb J.T) (by with_reducible repeat first | exact ph | apply pt)
    have HT := Lib.hid ht
    clear ht
    have HE5 := Lib.hid HM.out.keepsTo
    have fM := HM.out.fa
    have hE0 : Keeps NoB w5 w5.drew := (Keeps.refl _ _).drew
    refine wp_region_plan [(0, 0), (0, 1), (0, 2), (3, 3), (0, 6), (0, 7), (0, 8), (1, 9), (0, 10), (1, 11), (2, 4), (0, 5)] [9, 11] [4, 12, 13, 14] [12, 13, 14] (ClsE w5) (by kernel_rfl) (by kernel_rfl) (by kernel_rfl) rfl rfl (ClsE.of hE0) (fun _ _ _ d _ h => by cases d <;> exact h) ?_; simp only [planL, nL]
    refine pM _ rfl rfl ?_; simp only [nP, nE]
    iterate 2 (refine pR (v := ?_) rfl (fun W => ?_) ?_; rotate_left; (go_simp <;> with_reducible rfl); simp only [nP])
    refine pX (v := ?_) rfl ?_ ?_; rotate_left; (go_simp <;> with_reducible rfl); simp only [nP]
    refine pM _ rfl rfl ?_; simp only [nP, nE]
    iterate 2 (refine pR (v := ?_) rfl (fun W => ?_) ?_; rotate_left; (go_simp <;> with_reducible rfl); simp only [nP])
    refine pL (v := ?_) rfl (fun W => ?_) ?_; rotate_left; (go_simp <;> with_reducible rfl); simp only [nP]
    refine pR (v := ?_) rfl (fun W => ?_) ?_; rotate_left; (go_simp <;> with_reducible rfl); simp only [nP]
    refine pL (v := ?_) rfl (fun W => ?_) ?_; rotate_left; (go_simp <;> with_reducible rfl); simp only [nP]
    refine plan_does rfl (fun K hK => ?_)
    go_wp2_with fail
    refine (talk_slot _ tb J.T (HT.out.ext hE0)).mono ?_
    rintro r w6 ⟨rfl, rfl⟩
    refine hK _ _ ⟨ClsE.of (by assumption), ?_⟩; clear hK K; try simp only [nP]
    refine pR (v := ?_) rfl (fun W => ?_) ?_; rotate_left; (go_simp <;> with_reducible rfl); simp only [nP]
    refine plan_nil ?_; simp only [tailL, List.filterMap_cons, List.filterMap_nil, nL]; change wpList _ _ _ (_ :: _ :: _ :: []) _ _
    go_wp2_with fail
    refine (would_any _ tb J.T e (HT.out.ext hE0) HX.out.2.2.2.2.2.2 (fun h w1 h1 => HC.out h w1 ((HE5.out.ext hE0).ext h1))).mono ?_
    rintro r w6 ⟨rfl, hE6⟩
    have hE5 : Ext w5 w6 := hE0.ext hE6
    replace HM := Lib.hid (HM.out.ext hE5)
    go_wp2_with fail
    clear fM
    clear hE0 hE5 hE6 HT HE5
    refine nxt HM fun w7 M => ?_
    clear HM; have HM := M; clear M
    obtain ⟨Ahb, hb⟩ := HM.out.get (r := cellsR w6.heap.size 4 [.bool (decide (J.T.slot < 4096)), .bool (enB e && (countsR J.T e).2)]) (by with_reducible repeat first | exact ph | apply pt)
    refine (must_2 w7 _ 402 _ _ hb.2).mono ?_
    rintro r w' ⟨rfl, rfl⟩
    replace HM := Lib.hid (HM.out.pick (r := cellsR w6.heap.size 4 [.bool (decide (J.T.slot < 4096)), .bool (enB e && (countsR J.T e).2)]) (by with_reducible repeat first | exact ph | apply pt)).drop
    clear hb
    have hq0 : lineR J p index e = if J.T.slot < 4096 ∧ (enB e && (countsR J.T e).2) = true then ({ J with T := J.T.put e, told := J.told.set p (index + 1) }, 0) else (J, 402) := by
      unfold lineR; rw [if_neg HD.out, if_neg (by have := HE2.out; omega), if_neg (fun h => h HP.out)]
    by_cases hx : J.T.slot < 4096 ∧ (enB e && (countsR J.T e).2) = true
    case neg =>
      have hd : (decide (J.T.slot < 4096) && (enB e && (countsR J.T e).2)) = false := by
        cases h : decide (J.T.slot < 4096)
        · rfl
        · cases h' : (enB e && (countsR J.T e).2)
          · rfl
          · exact (hx ⟨of_decide_eq_true h, h'⟩).elim
      rw [hd]
      simp only [mustE, Bool.false_eq_true, if_false, errE]
      go_wp2_with fail
      rw [if_neg hx] at hq0
      rw [hq0]
      exact ⟨rfl, rfl, HM.out.shutJ (J := J) (tb := tb) (mb := mb) HL.out.1 HL.out.2 (by with_reducible repeat first | exact ph | apply pt) (by with_reducible repeat first | exact ph | apply pt) (by with_reducible repeat first | exact ph | apply pt)⟩
    rw [if_pos hx] at hq0
    have HQ := Lib.hid hq0
    rw [decide_eq_true hx.1, hx.2]
    simp only [mustE, Bool.true_and, if_true]
    have HH := Lib.hid hx
    clear hx hq0
    go_wp2_with fail
    refine nxt HM fun w8 M => ?_
    clear HM; have HM := M; clear M
    obtain ⟨Aht, ht⟩ := HM.out.get (r := talkR tb J.T) (by with_reducible repeat first | exact ph | apply pt)
    have HT := Lib.hid ht
    clear ht
    have fM := HM.out.fa
    have hE0 : Keeps NoB w8 w8.drew := (Keeps.refl _ _).drew
    refine wp_region_plan [(0, 0), (0, 1), (0, 2), (1, 3), (0, 4), (0, 5), (0, 6), (3, 7), (0, 9), (1, 10), (2, 8)] [3, 10] [8, 11] [11] (ClsE w8) (by kernel_rfl) (by kernel_rfl) (by kernel_rfl) rfl rfl (ClsE.of hE0) (fun _ _ _ d _ h => by cases d <;> exact h) ?_; simp only [planL, nL]
    refine pM _ rfl rfl ?_; simp only [nP, nE]
    iterate 2 (refine pR (v := ?_) rfl (fun W => ?_) ?_; rotate_left; (go_simp <;> with_reducible rfl); simp only [nP])
    refine pL (v := ?_) rfl (fun W => ?_) ?_; rotate_left; (go_simp <;> with_reducible rfl); simp only [nP]
    refine pM _ rfl rfl ?_; simp only [nP, nE]
    iterate 2 (refine pR (v := ?_) rfl (fun W => ?_) ?_; rotate_left; (go_simp <;> with_reducible rfl); simp only [nP])
    refine pX (v := ?_) rfl ?_ ?_; rotate_left; (go_simp <;> with_reducible rfl); simp only [nP]
    refine pR (v := ?_) rfl (fun W => ?_) ?_; rotate_left; (go_simp <;> with_reducible rfl); simp only [nP]
    refine pL (v := ?_) rfl (fun W => ?_) ?_; rotate_left; (go_simp <;> with_reducible rfl); simp only [nP]
    refine plan_does rfl (fun K hK => ?_)
    go_wp2_with fail
    refine (talk_slot _ tb J.T (HT.out.ext hE0)).mono ?_
    rintro r w9 ⟨rfl, rfl⟩
    refine hK _ _ ⟨ClsE.of (by assumption), ?_⟩; clear hK K; try simp only [nP]
    refine plan_nil ?_; simp only [tailL, List.filterMap_cons, List.filterMap_nil, nL]; change wpList _ _ _ (_ :: []) _ _
    go_wp2_with fail
    clear fM
    clear hE0
    refine nxt HM fun w9 M => ?_
    clear HM; have HM := M; clear M
    have hk9 := HM.out.keepsTo
    obtain ⟨A, hA, hup⟩ := (HM.out.pick (r := talkR tb J.T) (by with_reducible repeat first | exact ph | apply pt)).step
    obtain ⟨h1, h2⟩ := HH.out
    rw [Bool.and_eq_true] at h2
    refine (apply_ok w9 tb J.T e hA HX.out.2.2.2.2.2.2 h2.1 h2.2 HX.out.2.2.2.2.1 h1 HX.out.2.2.2.1 (fun h w1 h1 => HC.out h w1 (hk9.ext h1))).mono ?_
    rintro r w10 ⟨F', rfl, u1, u2, u3⟩
    replace HM := Lib.hid (hup (talkR tb (J.T.put e)) w10 ⟨F', u1, u2, u3⟩)
    clear hup hA u1 u2 u3 h1 h2 hk9
    go_wp2_with fail
    refine nxt HM fun w6 M => ?_
    clear HM; have HM := M; clear M
    have fM := HM.out.fa
    have hE0 : Keeps (OneB b) w6 w6.drew := (Keeps.refl _ _).drew
    refine wp_region_plan [(0, 0), (0, 1), (3, 2), (0, 3), (0, 4), (0, 5), (0, 6), (3, 7), (0, 8), (0, 9), (0, 10), (0, 11), (0, 12)] [] [13] [13] (ClsK (OneB b) w6) (by kernel_rfl) (by kernel_rfl) (by kernel_rfl) rfl rfl (ClsK.of hE0) (fun _ _ _ d _ h => by cases d <;> exact h) ?_; simp only [planL, nL]
    refine pM _ rfl rfl ?_; simp only [nP, nE]
    refine pR (v := ?_) rfl (fun W => ?_) ?_; rotate_left; (go_simp <;> with_reducible rfl); simp only [nP]
    refine pX (v := ?_) rfl ?_ ?_; rotate_left; (go_simp <;> with_reducible rfl); simp only [nP]
    iterate 4 (refine pR (v := ?_) rfl (fun W => ?_) ?_; rotate_left; (go_simp <;> with_reducible rfl); simp only [nP])
    refine pX (v := ?_) rfl ?_ ?_; rotate_left; (go_simp <;> with_reducible rfl); simp only [nP]
    iterate 5 (refine pR (v := ?_) rfl (fun W => ?_) ?_; rotate_left; (go_simp <;> with_reducible rfl); simp only [nP])
    refine plan_nil ?_; simp only [tailL, List.filterMap_cons, List.filterMap_nil, nL]; change wpList _ _ _ (_ :: []) _ _
    go_wp2_with fail
    clear fM
    clear hE0
    go_end0
    rw [HQ.out, HW.out]
    refine ⟨rfl, ?_⟩
    refine nxt HM fun w7 M => ?_
    clear HM; have HM := M; clear M
    rw [J.setTold tb mb HL.out.1 p HX.out.1] at HM
    rw [show ({ J with told := J.told.set p (index + 1) } : JA).cells tb mb = ({ J with T := J.T.put e, told := J.told.set p (index + 1) } : JA).cells tb mb from rfl] at HM
    exact HM.out.shutJ (J := { J with T := J.T.put e, told := J.told.set p (index + 1) }) (tb := tb) (mb := mb) (by simpa using HL.out.1) HL.out.2 (by with_reducible repeat first | exact ph | apply pt) (by with_reducible repeat first | exact ph | apply pt) (by with_reducible repeat first | exact ph | apply pt)
end Go.Proofs.YthhdgjofagdjeaaGreatDoor
end
section
/- What a judge does with a thing seen: a member began. Condition: the judge lies as 'JudgeX' says; the member is one of sixteen. -/
set_option linter.unusedVariables false
set_option linter.unusedSimpArgs false
set_option maxHeartbeats 2000000
set_option maxRecDepth 10000
namespace Go.Proofs.YthhdgjofagdjeaaGreatDoor
open Go.RowKit

def beganR (J : JA) (p : Nat) (index : Int) : JA × Int :=
  if ¬ (J.next.getD p 0 < 0 ∨ J.next.getD p 0 = index) then (J, 403)
  else if ¬ (index ≤ (J.T.l.length : Int) ∧ (¬ J.next.getD p 0 < 0 ∨ index < (J.T.l.length : Int))) then (J, 405)
  else if ¬ (¬ J.next.getD p 0 < 0 ∨ hasB J.T.l index ⟨2, p, 0, []⟩ = true) then (J, 406)
  else ({ J with next := J.next.set p index }, 0)
theorem began_any {F : Nat → Prop} (w : World) (b : Nat) (J : JA) (kind : Int) (p : Nat) (index : Int) (e : En) (h : JudgeX w F b J) (hp : p < 16) (hl : J.T.l.length ≤ 4096) :
    Calls Tryz.prog 56 #[.pointer (some ⟨b, 0, none⟩), (⟨kind, p, index, e⟩ : Sn).v] w fun r w' => r = doneE (beganR J p index).2 ∧ Upd F w w' (judgeR b (beganR J p index).1) := by
  have HLL := Lib.hid hl
  clear hl
  obtain ⟨⟨tb, mb⟩, ⟨l9, l16⟩, M⟩ := (Mem.start (r := judgeR b J) h).openJ
  have HM := Lib.hid M
  clear M h
  obtain ⟨-, h1, c25, c26, c27, c28, c29⟩ := J.at tb mb l9 l16
  obtain ⟨n, hn⟩ : ∃ n, J.next.getD p 0 = n := ⟨_, rfl⟩
  have cp : (J.cells tb mb)[9 + p]? = some (.int .i64 n) := by
    rw [h1 p hp, ← hn, List.getD_eq_getElem?_getD, List.getElem?_eq_getElem (by omega)]; rfl
  have g1 : (p : Int) < 16 := by omega
  have g2 : ¬ (p : Int) < 0 := by omega
  have HP := Lib.hid hp
  have HL := Lib.hid (show _ ∧ _ from ⟨l9, l16⟩)
  have HN := Lib.hid hn
  clear h1 hp l9 l16 hn c25 c26 c27
  unfold Sn.v
  go_enter Tryz.func56, Tryz.ntmps56
  by_cases g0 : n < 0
  · skip
    have fM := HM.out.fa
    go_wp2_with fail
    all_goals clear fM
    refine nxt HM fun w0 M => ?_
    clear HM; have HM := M; clear M
    have fM := HM.out.fa
    have hE0 : Keeps NoB w0 w0.drew := (Keeps.refl _ _).drew
    refine wp_region_plan [(0, 0), (0, 1), (3, 2), (0, 3), (0, 4), (0, 5), (0, 6), (3, 7), (0, 8)] [] [] [] (ClsE w0) (by kernel_rfl) (by kernel_rfl) (by kernel_rfl) rfl rfl (ClsE.of hE0) (fun _ _ _ d _ h => by cases d <;> exact h) ?_; simp only [planL, nL]
    refine pM _ rfl rfl ?_; simp only [nP, nE]
    refine pR (v := ?_) rfl (fun W => ?_) ?_; rotate_left; (go_simp <;> with_reducible rfl); simp only [nP]
    refine pX (v := ?_) rfl ?_ ?_; rotate_left; (go_simp <;> with_reducible rfl); simp only [nP]
    iterate 4 (refine pR (v := ?_) rfl (fun W => ?_) ?_; rotate_left; (go_simp <;> with_reducible rfl); simp only [nP])
    refine pX (v := ?_) rfl ?_ ?_; rotate_left; (go_simp <;> with_reducible rfl); simp only [nP]
    refine pA _ rfl rfl ?_; simp only [nP, nE]
    refine plan_nil ?_; simp only [tailL, List.filterMap_nil]
    go_wp2_with fail
    clear fM
    clear hE0
    refine nxt HM fun w1 M => ?_
    clear HM; have HM := M; clear M
    obtain ⟨Ahb, hb⟩ := HM.out.get (r := cellsR w0.heap.size 4 [.bool true]) (by with_reducible repeat first | exact ph | apply pt)
    refine (must_1 w1 _ _ true hb.2).mono ?_
    rintro r wq ⟨rfl, hwq⟩
    rw [hwq]
    clear hwq wq
    replace HM := Lib.hid (HM.out.pick (r := cellsR w0.heap.size 4 [.bool true]) (by with_reducible repeat first | exact ph | apply pt)).drop
    clear hb
    simp only [mustE, if_true]
    go_wp2_with fail
    refine nxt HM fun w2 M => ?_
    clear HM; have HM := M; clear M
    obtain ⟨Aht, ht⟩ := HM.out.get (r := talkR tb J.T) (by with_reducible repeat first | exact ph | apply pt)
    have HT := Lib.hid ht
    clear ht
    have g0b : ¬ 0 ≤ n := by omega
    have fM := HM.out.fa
    have hE0 : Keeps NoB w2 w2.drew := (Keeps.refl _ _).drew
    refine wp_region_plan [(0, 0), (1, 1), (0, 2), (0, 3), (0, 4), (3, 5), (0, 8), (0, 9), (2, 6), (0, 7), (0, 10), (0, 11), (1, 12), (0, 13), (0, 14), (0, 15), (1, 16), (2, 17), (0, 18), (0, 19)] [1, 12, 16] [6, 17, 20, 21] [20, 21] (ClsE w2) (by kernel_rfl) (by kernel_rfl) (by kernel_rfl) rfl rfl (ClsE.of hE0) (fun _ _ _ d _ h => by cases d <;> exact h) ?_; simp only [planL, nL]
    refine pR (v := ?_) rfl (fun W => ?_) ?_; rotate_left; (go_simp <;> with_reducible rfl); simp only [nP]
    refine pL (v := ?_) rfl (fun W => ?_) ?_; rotate_left; (go_simp <;> with_reducible rfl); simp only [nP]
    refine pM _ rfl rfl ?_; simp only [nP, nE]
    iterate 2 (refine pR (v := ?_) rfl (fun W => ?_) ?_; rotate_left; (go_simp <;> with_reducible rfl); simp only [nP])
    refine pX (v := ?_) rfl ?_ ?_; rotate_left; (go_simp <;> with_reducible rfl); simp only [nP]
    refine pM _ rfl rfl ?_; simp only [nP, nE]
    refine pR (v := ?_) rfl (fun W => ?_) ?_; rotate_left; (go_simp <;> with_reducible rfl); simp only [nP]
    refine plan_does rfl (fun K hK => ?_)
    go_wp2_with fail
    refine (talk_len _ tb J.T (HT.out.ext hE0)).mono ?_
    rintro r w3 ⟨rfl, rfl⟩
    refine hK _ _ ⟨ClsE.of (by assumption), ?_⟩; clear hK K; try simp only [nP]
    refine pR (v := ?_) rfl (fun W => ?_) ?_; rotate_left; (go_simp <;> with_reducible rfl); simp only [nP]
    refine pM _ rfl rfl ?_; simp only [nP, nE]
    (first | (refine plan_skip rfl ?_; simp only [nP]) | (refine pR (v := ?_) rfl (fun W => ?_) ?_; rotate_left; (go_simp <;> with_reducible rfl); simp only [nP]))
    (first | (refine plan_skip rfl ?_; simp only [nP]) | (refine pL (v := ?_) rfl (fun W => ?_) ?_; rotate_left; (go_simp <;> with_reducible rfl); simp only [nP]))
    (first | (refine plan_skip rfl ?_; simp only [nP]) | (refine pM _ rfl rfl ?_; simp only [nP, nE]))
    iterate 2 ((first | (refine plan_skip rfl ?_; simp only [nP]) | (refine pR (v := ?_) rfl (fun W => ?_) ?_; rotate_left; (go_simp <;> with_reducible rfl); simp only [nP])))
    (first | (refine plan_skip rfl ?_; simp only [nP]) | (refine pL (v := ?_) rfl (fun W => ?_) ?_; rotate_left; (go_simp <;> with_reducible rfl); simp only [nP]))
    (first | (refine plan_skip rfl ?_; simp only [nP]) | (refine plan_does rfl (fun K hK => ?_)))
    go_wp2_with fail
    refine (talk_len _ tb J.T (HT.out.ext hE0)).mono ?_
    rintro r w3 ⟨rfl, rfl⟩
    refine hK _ _ ⟨ClsE.of (by assumption), ?_⟩; clear hK K; try simp only [nP]
    (first | (refine plan_skip rfl ?_; simp only [nP]) | (refine pR (v := ?_) rfl (fun W => ?_) ?_; rotate_left; (go_simp <;> with_reducible rfl); simp only [nP]))
    refine pR (v := ?_) rfl (fun W => ?_) ?_; rotate_left; (go_simp <;> with_reducible rfl); simp only [nP]
    refine plan_nil ?_; simp only [tailL, List.filterMap_cons, List.filterMap_nil, nL]; change wpList _ _ _ (_ :: _ :: []) _ _
    go_wp2_with fail
    clear fM
    clear hE0 g0b HT
    refine nxt HM fun w3 M => ?_
    clear HM; have HM := M; clear M
    obtain ⟨Ahb, hb⟩ := HM.out.get (r := cellsR w2.heap.size 4 [.bool (decide (index ≤ (J.T.l.length : Int))), .bool (decide (index < (J.T.l.length : Int)))]) (by with_reducible repeat first | exact ph | apply pt)
    refine (must_2 w3 _ _ _ _ hb.2).mono ?_
    rintro r wq ⟨rfl, hwq⟩
    rw [hwq]
    clear hwq wq
    replace HM := Lib.hid (HM.out.pick (r := cellsR w2.heap.size 4 [.bool (decide (index ≤ (J.T.l.length : Int))), .bool (decide (index < (J.T.l.length : Int)))]) (by with_reducible repeat first | exact ph | apply pt)).drop
    clear hb
    by_cases h2 : index < (J.T.l.length : Int)
    case neg =>
      rw [decide_eq_false h2, Bool.and_false]
      have hq : beganR J p index = (J, 405) := by unfold beganR; rw [HN.out, if_neg (fun h => h (.inl g0)), if_pos (fun h => by rcases h.2 with h | h; exact h g0; exact h2 h)]
      have HQ := Lib.hid hq
      clear hq
      simp only [mustE, Bool.false_eq_true, if_false, errE]
      go_wp2_with fail
      rw [HQ.out]
      exact ⟨rfl, rfl, HM.out.shutJ (J := J) (tb := tb) (mb := mb) HL.out.1 HL.out.2 (by with_reducible repeat first | exact ph | apply pt) (by with_reducible repeat first | exact ph | apply pt) (by with_reducible repeat first | exact ph | apply pt)⟩
    rw [decide_eq_true h2, decide_eq_true (show index ≤ (J.T.l.length : Int) by omega), Bool.and_true]
    simp only [mustE, if_true]
    have H2 := Lib.hid h2
    clear h2
    have g0b : ¬ 0 ≤ n := by omega
    have fM := HM.out.fa
    go_wp2_with fail
    all_goals clear fM
    refine nxt HM fun w4 M => ?_
    clear HM; have HM := M; clear M
    obtain ⟨A, hA, -⟩ := HM.out.shutJ (b := b) (J := J) (tb := tb) (mb := mb) HL.out.1 HL.out.2 (by with_reducible repeat first | exact ph | apply pt) (by with_reducible repeat first | exact ph | apply pt) (by with_reducible repeat first | exact ph | apply pt)
    refine (has_any w4 b J index ⟨2, p, 0, []⟩ hA HLL.out).mono ?_
    rintro r w5 ⟨rfl, hE5⟩
    replace HM := Lib.hid (HM.out.ext hE5)
    clear hE5 hA A
    have fM := HM.out.fa
    go_wp2_with fail
    all_goals clear fM
    refine nxt HM fun w6 M => ?_
    clear HM; have HM := M; clear M
    obtain ⟨Ahb, hb⟩ := HM.out.get (r := cellsR w5.heap.size 4 [.bool (hasB J.T.l index ⟨2, p, 0, []⟩)]) (by with_reducible repeat first | exact ph | apply pt)
    refine (must_1 w6 _ _ _ hb.2).mono ?_
    rintro r wq ⟨rfl, hwq⟩
    rw [hwq]
    clear hwq wq
    replace HM := Lib.hid (HM.out.pick (r := cellsR w5.heap.size 4 [.bool (hasB J.T.l index ⟨2, p, 0, []⟩)]) (by with_reducible repeat first | exact ph | apply pt)).drop
    clear hb
    cases hx : hasB J.T.l index ⟨2, p, 0, []⟩
    · have hq : beganR J p index = (J, 406) := by unfold beganR; rw [HN.out, if_neg (fun h => h (.inl g0)), if_neg (fun h => h ⟨by have := H2.out; omega, .inr H2.out⟩), if_pos (fun h => by rcases h with h | h; exact h g0; rw [hx] at h; cases h)]
      have HQ := Lib.hid hq
      clear hq
      simp only [mustE, Bool.false_eq_true, if_false, errE]
      go_wp2_with fail
      rw [HQ.out]
      exact ⟨rfl, rfl, HM.out.shutJ (J := J) (tb := tb) (mb := mb) HL.out.1 HL.out.2 (by with_reducible repeat first | exact ph | apply pt) (by with_reducible repeat first | exact ph | apply pt) (by with_reducible repeat first | exact ph | apply pt)⟩
    simp only [mustE, if_true]
    have hq : beganR J p index = ({ J with next := J.next.set p index }, 0) := by unfold beganR; rw [HN.out, if_neg (fun h => h (.inl g0)), if_neg (fun h => h ⟨by have := H2.out; omega, .inr H2.out⟩), if_neg (fun h => h (.inr hx))]
    have HQ := Lib.hid hq
    clear hx hq
    go_wp2_with fail
    refine nxt HM fun w7 M => ?_
    clear HM; have HM := M; clear M
    have fM := HM.out.fa
    have hE0 : Keeps (OneB b) w7 w7.drew := (Keeps.refl _ _).drew
    refine wp_region_plan [(0, 0), (0, 1), (3, 2), (0, 3), (3, 4), (0, 5), (0, 6), (0, 7), (0, 8)] [] [9] [9] (ClsK (OneB b) w7) (by kernel_rfl) (by kernel_rfl) (by kernel_rfl) rfl rfl (ClsK.of hE0) (fun _ _ _ d _ h => by cases d <;> exact h) ?_; simp only [planL, nL]
    refine pM _ rfl rfl ?_; simp only [nP, nE]
    refine pR (v := ?_) rfl (fun W => ?_) ?_; rotate_left; (go_simp <;> with_reducible rfl); simp only [nP]
    refine pX (v := ?_) rfl ?_ ?_; rotate_left; (go_simp <;> with_reducible rfl); simp only [nP]
    refine pR (v := ?_) rfl (fun W => ?_) ?_; rotate_left; (go_simp <;> with_reducible rfl); simp only [nP]
    refine pX (v := ?_) rfl ?_ ?_; rotate_left; (go_simp <;> with_reducible rfl); simp only [nP]
    iterate 4 (refine pR (v := ?_) rfl (fun W => ?_) ?_; rotate_left; (go_simp <;> with_reducible rfl); simp only [nP])
    refine plan_nil ?_; simp only [tailL, List.filterMap_cons, List.filterMap_nil, nL]; change wpList _ _ _ (_ :: []) _ _
    go_wp2_with fail
    clear fM
    clear hE0
    go_end0
    rw [HQ.out]
    refine ⟨rfl, ?_⟩
    refine nxt HM fun w8 M => ?_
    clear HM; have HM := M; clear M
    rw [J.setNext tb mb HL.out.1 HL.out.2 p HP.out] at HM
    exact HM.out.shutJ (J := { J with next := J.next.set p index }) (tb := tb) (mb := mb) HL.out.1 (by simpa using HL.out.2) (by with_reducible repeat first | exact ph | apply pt) (by with_reducible repeat first | exact ph | apply pt) (by with_reducible repeat first | exact ph | apply pt)
  · skip
    have G0 := Lib.hid g0
    have g0b : 0 ≤ n := by omega
    clear g0
    have fM := HM.out.fa
    go_wp2_with fail
    all_goals clear fM
    refine nxt HM fun w0 M => ?_
    clear HM; have HM := M; clear M
    have fM := HM.out.fa
    have hE0 : Keeps NoB w0 w0.drew := (Keeps.refl _ _).drew
    refine wp_region_plan [(0, 0), (0, 1), (3, 2), (0, 3), (0, 4), (0, 5), (0, 6), (3, 7), (0, 8)] [] [] [] (ClsE w0) (by kernel_rfl) (by kernel_rfl) (by kernel_rfl) rfl rfl (ClsE.of hE0) (fun _ _ _ d _ h => by cases d <;> exact h) ?_; simp only [planL, nL]
    refine pM _ rfl rfl ?_; simp only [nP, nE]
    refine pR (v := ?_) rfl (fun W => ?_) ?_; rotate_left; (go_simp <;> with_reducible rfl); simp only [nP]
    refine pX (v := ?_) rfl ?_ ?_; rotate_left; (go_simp <;> with_reducible rfl); simp only [nP]
    iterate 4 (refine pR (v := ?_) rfl (fun W => ?_) ?_; rotate_left; (go_simp <;> with_reducible rfl); simp only [nP])
    refine pX (v := ?_) rfl ?_ ?_; rotate_left; (go_simp <;> with_reducible rfl); simp only [nP]
    refine pA _ rfl rfl ?_; simp only [nP, nE]
    refine plan_nil ?_; simp only [tailL, List.filterMap_nil]
    go_wp2_with fail
    clear fM
    clear hE0
    refine nxt HM fun w1 M => ?_
    clear HM; have HM := M; clear M
    rw [show decide (n < 0) = false from decide_eq_false (by omega), Bool.false_or] at HM
    obtain ⟨Ahb, hb⟩ := HM.out.get (r := cellsR w0.heap.size 4 [.bool (n == index)]) (by with_reducible repeat first | exact ph | apply pt)
    refine (must_1 w1 _ _ _ hb.2).mono ?_
    rintro r wq ⟨rfl, hwq⟩
    rw [hwq]
    clear hwq wq
    replace HM := Lib.hid (HM.out.pick (r := cellsR w0.heap.size 4 [.bool (n == index)]) (by with_reducible repeat first | exact ph | apply pt)).drop
    clear hb
    cases hx : n == index
    · have hx' : ¬ n = index := by simpa using hx
      have hq : beganR J p index = (J, 403) := by unfold beganR; rw [HN.out, if_pos (fun h => by rcases h with h | h; omega; exact hx' h)]
      have HQ := Lib.hid hq
      clear hq
      simp only [mustE, Bool.false_eq_true, if_false, errE]
      go_wp2_with fail
      rw [HQ.out]
      exact ⟨rfl, rfl, HM.out.shutJ (J := J) (tb := tb) (mb := mb) HL.out.1 HL.out.2 (by with_reducible repeat first | exact ph | apply pt) (by with_reducible repeat first | exact ph | apply pt) (by with_reducible repeat first | exact ph | apply pt)⟩
    obtain rfl : n = index := by simpa using hx
    clear hx
    simp only [mustE, if_true]
    go_wp2_with fail
    refine nxt HM fun w2 M => ?_
    clear HM; have HM := M; clear M
    obtain ⟨Aht, ht⟩ := HM.out.get (r := talkR tb J.T) (by with_reducible repeat first | exact ph | apply pt)
    have HT := Lib.hid ht
    clear ht
    have fM := HM.out.fa
    have hE0 : Keeps NoB w2 w2.drew := (Keeps.refl _ _).drew
    refine wp_region_plan [(0, 0), (1, 1), (0, 2), (0, 3), (0, 4), (3, 5), (0, 8), (0, 9), (2, 6), (0, 7), (0, 10), (0, 11), (1, 12), (0, 13), (0, 14), (0, 15), (1, 16), (2, 17), (0, 18), (0, 19)] [1, 12, 16] [6, 17, 20, 21] [20, 21] (ClsE w2) (by kernel_rfl) (by kernel_rfl) (by kernel_rfl) rfl rfl (ClsE.of hE0) (fun _ _ _ d _ h => by cases d <;> exact h) ?_; simp only [planL, nL]
    refine pR (v := ?_) rfl (fun W => ?_) ?_; rotate_left; (go_simp <;> with_reducible rfl); simp only [nP]
    refine pL (v := ?_) rfl (fun W => ?_) ?_; rotate_left; (go_simp <;> with_reducible rfl); simp only [nP]
    refine pM _ rfl rfl ?_; simp only [nP, nE]
    iterate 2 (refine pR (v := ?_) rfl (fun W => ?_) ?_; rotate_left; (go_simp <;> with_reducible rfl); simp only [nP])
    refine pX (v := ?_) rfl ?_ ?_; rotate_left; (go_simp <;> with_reducible rfl); simp only [nP]
    refine pM _ rfl rfl ?_; simp only [nP, nE]
    refine pR (v := ?_) rfl (fun W => ?_) ?_; rotate_left; (go_simp <;> with_reducible rfl); simp only [nP]
    refine plan_does rfl (fun K hK => ?_)
    go_wp2_with fail
    refine (talk_len _ tb J.T (HT.out.ext hE0)).mono ?_
    rintro r w3 ⟨rfl, rfl⟩
    refine hK _ _ ⟨ClsE.of (by assumption), ?_⟩; clear hK K; try simp only [nP]
    refine pR (v := ?_) rfl (fun W => ?_) ?_; rotate_left; (go_simp <;> with_reducible rfl); simp only [nP]
    refine pM _ rfl rfl ?_; simp only [nP, nE]
    (first | (refine plan_skip rfl ?_; simp only [nP]) | (refine pR (v := ?_) rfl (fun W => ?_) ?_; rotate_left; (go_simp <;> with_reducible rfl); simp only [nP]))
    (first | (refine plan_skip rfl ?_; simp only [nP]) | (refine pL (v := ?_) rfl (fun W => ?_) ?_; rotate_left; (go_simp <;> with_reducible rfl); simp only [nP]))
    (first | (refine plan_skip rfl ?_; simp only [nP]) | (refine pM _ rfl rfl ?_; simp only [nP, nE]))
    iterate 2 ((first | (refine plan_skip rfl ?_; simp only [nP]) | (refine pR (v := ?_) rfl (fun W => ?_) ?_; rotate_left; (go_simp <;> with_reducible rfl); simp only [nP])))
    (first | (refine plan_skip rfl ?_; simp only [nP]) | (refine pL (v := ?_) rfl (fun W => ?_) ?_; rotate_left; (go_simp <;> with_reducible rfl); simp only [nP]))
    refine plan_skip rfl ?_; simp only [nP]
    (first | (refine plan_skip rfl ?_; simp only [nP]) | (refine pR (v := ?_) rfl (fun W => ?_) ?_; rotate_left; (go_simp <;> with_reducible rfl); simp only [nP]))
    refine pR (v := ?_) rfl (fun W => ?_) ?_; rotate_left; (go_simp <;> with_reducible rfl); simp only [nP]
    refine plan_nil ?_; simp only [tailL, List.filterMap_cons, List.filterMap_nil, nL]; change wpList _ _ _ (_ :: _ :: []) _ _
    go_wp2_with fail
    clear fM
    clear hE0 HT
    refine nxt HM fun w3 M => ?_
    clear HM; have HM := M; clear M
    obtain ⟨Ahb, hb⟩ := HM.out.get (r := cellsR w2.heap.size 4 [.bool (decide (n ≤ (J.T.l.length : Int))), .bool true]) (by with_reducible repeat first | exact ph | apply pt)
    refine (must_2 w3 _ _ _ _ hb.2).mono ?_
    rintro r wq ⟨rfl, hwq⟩
    rw [hwq]
    clear hwq wq
    replace HM := Lib.hid (HM.out.pick (r := cellsR w2.heap.size 4 [.bool (decide (n ≤ (J.T.l.length : Int))), .bool true]) (by with_reducible repeat first | exact ph | apply pt)).drop
    clear hb
    by_cases h2 : n ≤ (J.T.l.length : Int)
    case neg =>
      rw [decide_eq_false h2, Bool.false_and]
      have hq : beganR J p n = (J, 405) := by unfold beganR; rw [HN.out, if_neg (fun h => h (.inr rfl)), if_pos (fun h => h2 h.1)]
      have HQ := Lib.hid hq
      clear hq
      simp only [mustE, Bool.false_eq_true, if_false, errE]
      go_wp2_with fail
      rw [HQ.out]
      exact ⟨rfl, rfl, HM.out.shutJ (J := J) (tb := tb) (mb := mb) HL.out.1 HL.out.2 (by with_reducible repeat first | exact ph | apply pt) (by with_reducible repeat first | exact ph | apply pt) (by with_reducible repeat first | exact ph | apply pt)⟩
    rw [decide_eq_true h2, Bool.and_true]
    simp only [mustE, if_true]
    have hq : beganR J p n = ({ J with next := J.next.set p n }, 0) := by unfold beganR; rw [HN.out, if_neg (fun h => h (.inr rfl)), if_neg (fun h => h ⟨h2, .inl (by omega)⟩), if_neg (fun h => h (.inl (by omega)))]
    have HQ := Lib.hid hq
    clear h2 hq
    have fM := HM.out.fa
    go_wp2_with fail
    all_goals clear fM
    refine nxt HM fun w4 M => ?_
    clear HM; have HM := M; clear M
    obtain ⟨Ahb, hb⟩ := HM.out.get (r := cellsR w3.heap.size 4 [.bool true]) (by with_reducible repeat first | exact ph | apply pt)
    refine (must_1 w4 _ _ _ hb.2).mono ?_
    rintro r wq ⟨rfl, hwq⟩
    rw [hwq]
    clear hwq wq
    replace HM := Lib.hid (HM.out.pick (r := cellsR w3.heap.size 4 [.bool true]) (by with_reducible repeat first | exact ph | apply pt)).drop
    clear hb
    simp only [mustE, if_true]
    go_wp2_with fail
    refine nxt HM fun w7 M => ?_
    clear HM; have HM := M; clear M
    have fM := HM.out.fa
    have hE0 : Keeps (OneB b) w7 w7.drew := (Keeps.refl _ _).drew
    refine wp_region_plan [(0, 0), (0, 1), (3, 2), (0, 3), (3, 4), (0, 5), (0, 6), (0, 7), (0, 8)] [] [9] [9] (ClsK (OneB b) w7) (by kernel_rfl) (by kernel_rfl) (by kernel_rfl) rfl rfl (ClsK.of hE0) (fun _ _ _ d _ h => by cases d <;> exact h) ?_; simp only [planL, nL]
    refine pM _ rfl rfl ?_; simp only [nP, nE]
    refine pR (v := ?_) rfl (fun W => ?_) ?_; rotate_left; (go_simp <;> with_reducible rfl); simp only [nP]
    refine pX (v := ?_) rfl ?_ ?_; rotate_left; (go_simp <;> with_reducible rfl); simp only [nP]
    refine pR (v := ?_) rfl (fun W => ?_) ?_; rotate_left; (go_simp <;> with_reducible rfl); simp only [nP]
    refine pX (v := ?_) rfl ?_ ?_; rotate_left; (go_simp <;> with_reducible rfl); simp only [nP]
    iterate 4 (refine pR (v := ?_) rfl (fun W => ?_) ?_; rotate_left; (go_simp <;> with_reducible rfl); simp only [nP])
    refine plan_nil ?_; simp only [tailL, List.filterMap_cons, List.filterMap_nil, nL]; change wpList _ _ _ (_ :: []) _ _
    go_wp2_with fail
    clear fM
    clear hE0
    go_end0
    rw [HQ.out]
    refine ⟨rfl, ?_⟩
    refine nxt HM fun w8 M => ?_
    clear HM; have HM := M; clear M
    rw [J.setNext tb mb HL.out.1 HL.out.2 p HP.out] at HM
    exact HM.out.shutJ (J := { J with next := J.next.set p n }) (tb := tb) (mb := mb) HL.out.1 (by simpa using HL.out.2) (by with_reducible repeat first | exact ph | apply pt) (by with_reducible repeat first | exact ph | apply pt) (by with_reducible repeat first | exact ph | apply pt)
end Go.Proofs.YthhdgjofagdjeaaGreatDoor
end
