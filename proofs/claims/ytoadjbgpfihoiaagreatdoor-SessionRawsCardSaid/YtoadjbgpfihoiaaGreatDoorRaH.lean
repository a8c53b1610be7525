/- Texts JC, Shelf, TA, TB, TC, one behind the other. Conditions: as each says. -/
import Derived.Test.YtoadjbgpfihoiaaGreatDoorRaG
import Derived.Ground.NamesProg
import Derived.Shelf.Unicode.ValidAny
import Derived.Shelf.Strings.Trim
import Derived.Test.YtoadjbgpfihoiaaGreatDoorProg
set_option linter.unusedVariables false
set_option linter.unusedSimpArgs false
set_option maxHeartbeats 8000000
set_option maxRecDepth 100000
namespace Go.Proofs.YtoadjbgpfihoiaaGreatDoor
open Go.RowKit
section
structure En where
 kind : Int
 member : Int
 number : Int
 text : List UInt8
deriving DecidableEq
def En.cells (e : En) : List Value := [.int .i64 e.kind, .int .i64 e.member, .int .i64 e.number, .string (bs e.text)]
def En.v (e : En) : Value := .agg #[.int .i64 e.kind, .int .i64 e.member, .int .i64 e.number, .string (bs e.text)]
def memB (m : Int) : Bool := decide (0 ≤ m) && decide (m < 16)
def aloneB (e : En) : Bool := decide (e = ⟨e.kind, e.member, 0, []⟩)
theorem alone_cases (e : En) : (e.number = 0 ∧ (bs e.text).toList = [] ∧ aloneB e = true) ∨ (e.number = 0 ∧ ¬ (bs e.text).toList = [] ∧ aloneB e = false) ∨ (¬ e.number = 0 ∧ aloneB e = false) := by
 obtain ⟨k, m, n, t⟩ := e
 rw [bs_toList]
 unfold aloneB
 by_cases hn : n = 0
 · by_cases ht : t = []
   · exact .inl ⟨hn, ht, by subst hn ht; simp⟩
   · exact .inr (.inl ⟨hn, ht, by simp [ht]⟩)
 · exact .inr (.inr ⟨hn, by simp [hn]⟩)
theorem acc_all2 (w : World) (b : Nat) (x y : Bool) (hb : Box w b 4 [.bool x, .bool y]) : Calls Tryz.prog 288 #[.slice (some ⟨b, 0, none⟩) 2 2] w fun e w' => e = .returned (.bool (x && y)) ∧ w' = w := by
 have HB := Lib.hid hb
 clear hb
 cases x
 · go_enter Tryz.func288, Tryz.ntmps288
   obtain ⟨cHB, zHB⟩ := HB.out.reads
   have lHB := HB.out.lt
   go_wp2_with fail
   refine wp_loop_rounds 3 ?_
   rw [rounds_succ]
   go_wp2_with fail
   go_ret
   exact ⟨rfl, rfl⟩
 · cases y
   · go_enter Tryz.func288, Tryz.ntmps288
     obtain ⟨cHB, zHB⟩ := HB.out.reads
     have lHB := HB.out.lt
     go_wp2_with fail
     refine wp_loop_rounds 4 ?_
     rw [rounds_succ]
     go_wp2_with fail
     rw [rounds_succ]
     go_wp2_with fail
     go_ret
     exact ⟨rfl, rfl⟩
   · go_enter Tryz.func288, Tryz.ntmps288
     obtain ⟨cHB, zHB⟩ := HB.out.reads
     have lHB := HB.out.lt
     go_wp2_with fail
     refine wp_loop_rounds 4 ?_
     rw [rounds_succ]
     go_wp2_with fail
     rw [rounds_succ]
     go_wp2_with fail
     rw [rounds_succ]
     go_wp2_with fail
     go_ret
     exact ⟨rfl, rfl⟩
theorem right1_any (w : World) (k : Nat) (m : Bool) (e : En) (hk : Box w k 4 [.bool m]) :
 Calls Tryz.prog 287 #[e.v, .pointer (some ⟨k, 0, none⟩)] w fun r w' => r = .returned (.bool (m && aloneB e)) ∧ Ext w w' := by
 have HB := Lib.hid hk
 clear hk
 unfold En.v
 rcases alone_cases e with ⟨h1, h2, h3⟩ | ⟨h1, h2, h3⟩ | ⟨h1, h3⟩
 · rw [h3]
   clear h3
   have HH := Lib.hid (And.intro h1 h2)
   clear h1 h2
   go_enter Tryz.func287, Tryz.ntmps287
   obtain ⟨cHB, zHB⟩ := HB.out.reads
   have lHB := HB.out.lt
   go_wp2_with fail
   have bx0 := (Box.new w 35 [.int .i64 e.kind, .int .i64 e.member, .int .i64 e.number, .string (bs e.text)])
   have ex : Ext w (w.alloc (Obj.cells #[.int .i64 e.kind, .int .i64 e.member, .int .i64 e.number, .string (bs e.text)] 35)) := ((Keeps.refl NoB w).alloc _)
   have sx : (w.alloc (Obj.cells #[.int .i64 e.kind, .int .i64 e.member, .int .i64 e.number, .string (bs e.text)] 35)).heap.size = w.heap.size + 1 := by simp
   generalize (w.alloc (Obj.cells #[.int .i64 e.kind, .int .i64 e.member, .int .i64 e.number, .string (bs e.text)] 35)) = w0 at bx0 ex sx ⊢
   have Sx := Lib.hid sx
   clear sx
   have BX := Lib.hid bx0
   clear cHB zHB lHB
   replace HB := Lib.hid (HB.out.ext ex)
   have HE := Lib.hid ex
   clear bx0 ex
   obtain ⟨cHB, zHB⟩ := HB.out.reads
   have lHB := HB.out.lt
   obtain ⟨cBX, zBX⟩ := BX.out.reads
   have lBX := BX.out.lt
   obtain ⟨h1, h2⟩ := HH.out
   have hE0 : Keeps NoB w0 w0.drew := (Keeps.refl _ _).drew
   refine wp_region_plan [(3, 0), (3, 1), (0, 2), (3, 3), (0, 4), (3, 5), (0, 6), (0, 7)] [] [8, 9, 10] [8, 9, 10] (ClsE w0) (by kernel_rfl) (by kernel_rfl) (by kernel_rfl) rfl rfl (ClsE.of hE0) (fun _ _ _ d _ h => by cases d <;> exact h) ?_; simp only [planL, nL]
   iterate 8 (first | (refine pR (by rfl) (fun W => by go_simp <;> with_reducible rfl) ?_; simp only [nP]) | (refine pX (by rfl) (by go_simp <;> with_reducible rfl) ?_; simp only [nP]))
   refine plan_nil ?_; simp only [tailL, List.filterMap_cons, List.filterMap_nil, nL]; change wpList _ _ _ (_ :: _ :: _ :: []) _ _
   clear cHB zHB lHB cBX zBX lBX
   clear h1 h2
   go_wp2_with fail
   have by0 := (Box.new w0 4 [.bool m, .bool true])
   have ey : Ext w0 (w0.alloc (Obj.cells #[.bool m, .bool true] 4)) := ((Keeps.refl NoB w0).alloc _)
   have sy : (w0.alloc (Obj.cells #[.bool m, .bool true] 4)).heap.size = w0.heap.size + 1 := by simp
   generalize (w0.alloc (Obj.cells #[.bool m, .bool true] 4)) = w1 at by0 ey sy ⊢
   have Sy := Lib.hid sy
   clear sy
   have HE1 := Lib.hid ((HE.out.ext ey).drew)
   refine (acc_all2 w1.drew _ m true by0.drew).mono ?_
   rintro e' w2 ⟨rfl, rfl⟩
   clear ey by0 hE0
   go_wp2_with fail
   go_ret
   exact ⟨by simp, HE1.out⟩
 · rw [h3]
   clear h3
   have HH := Lib.hid (And.intro h1 h2)
   clear h1 h2
   go_enter Tryz.func287, Tryz.ntmps287
   obtain ⟨cHB, zHB⟩ := HB.out.reads
   have lHB := HB.out.lt
   go_wp2_with fail
   have bx0 := (Box.new w 35 [.int .i64 e.kind, .int .i64 e.member, .int .i64 e.number, .string (bs e.text)])
   have ex : Ext w (w.alloc (Obj.cells #[.int .i64 e.kind, .int .i64 e.member, .int .i64 e.number, .string (bs e.text)] 35)) := ((Keeps.refl NoB w).alloc _)
   have sx : (w.alloc (Obj.cells #[.int .i64 e.kind, .int .i64 e.member, .int .i64 e.number, .string (bs e.text)] 35)).heap.size = w.heap.size + 1 := by simp
   generalize (w.alloc (Obj.cells #[.int .i64 e.kind, .int .i64 e.member, .int .i64 e.number, .string (bs e.text)] 35)) = w0 at bx0 ex sx ⊢
   have Sx := Lib.hid sx
   clear sx
   have BX := Lib.hid bx0
   clear cHB zHB lHB
   replace HB := Lib.hid (HB.out.ext ex)
   have HE := Lib.hid ex
   clear bx0 ex
   obtain ⟨cHB, zHB⟩ := HB.out.reads
   have lHB := HB.out.lt
   obtain ⟨cBX, zBX⟩ := BX.out.reads
   have lBX := BX.out.lt
   obtain ⟨h1, h2⟩ := HH.out
   have hE0 : Keeps NoB w0 w0.drew := (Keeps.refl _ _).drew
   refine wp_region_plan [(3, 0), (3, 1), (0, 2), (3, 3), (0, 4), (3, 5), (0, 6), (0, 7)] [] [8, 9, 10] [8, 9, 10] (ClsE w0) (by kernel_rfl) (by kernel_rfl) (by kernel_rfl) rfl rfl (ClsE.of hE0) (fun _ _ _ d _ h => by cases d <;> exact h) ?_; simp only [planL, nL]
   iterate 8 (first | (refine pR (by rfl) (fun W => by go_simp <;> with_reducible rfl) ?_; simp only [nP]) | (refine pX (by rfl) (by go_simp <;> with_reducible rfl) ?_; simp only [nP]))
   refine plan_nil ?_; simp only [tailL, List.filterMap_cons, List.filterMap_nil, nL]; change wpList _ _ _ (_ :: _ :: _ :: []) _ _
   clear cHB zHB lHB cBX zBX lBX
   clear h1 h2
   go_wp2_with fail
   have by0 := (Box.new w0 4 [.bool m, .bool false])
   have ey : Ext w0 (w0.alloc (Obj.cells #[.bool m, .bool false] 4)) := ((Keeps.refl NoB w0).alloc _)
   have sy : (w0.alloc (Obj.cells #[.bool m, .bool false] 4)).heap.size = w0.heap.size + 1 := by simp
   generalize (w0.alloc (Obj.cells #[.bool m, .bool false] 4)) = w1 at by0 ey sy ⊢
   have Sy := Lib.hid sy
   clear sy
   have HE1 := Lib.hid ((HE.out.ext ey).drew)
   refine (acc_all2 w1.drew _ m false by0.drew).mono ?_
   rintro e' w2 ⟨rfl, rfl⟩
   clear ey by0 hE0
   go_wp2_with fail
   go_ret
   exact ⟨by simp, HE1.out⟩
 · rw [h3]
   clear h3
   have HH := Lib.hid (And.intro h1 trivial)
   clear h1
   go_enter Tryz.func287, Tryz.ntmps287
   obtain ⟨cHB, zHB⟩ := HB.out.reads
   have lHB := HB.out.lt
   go_wp2_with fail
   have bx0 := (Box.new w 35 [.int .i64 e.kind, .int .i64 e.member, .int .i64 e.number, .string (bs e.text)])
   have ex : Ext w (w.alloc (Obj.cells #[.int .i64 e.kind, .int .i64 e.member, .int .i64 e.number, .string (bs e.text)] 35)) := ((Keeps.refl NoB w).alloc _)
   have sx : (w.alloc (Obj.cells #[.int .i64 e.kind, .int .i64 e.member, .int .i64 e.number, .string (bs e.text)] 35)).heap.size = w.heap.size + 1 := by simp
   generalize (w.alloc (Obj.cells #[.int .i64 e.kind, .int .i64 e.member, .int .i64 e.number, .string (bs e.text)] 35)) = w0 at bx0 ex sx ⊢
   have Sx := Lib.hid sx
   clear sx
   have BX := Lib.hid bx0
   clear cHB zHB lHB
   replace HB := Lib.hid (HB.out.ext ex)
   have HE := Lib.hid ex
   clear bx0 ex
   obtain ⟨cHB, zHB⟩ := HB.out.reads
   have lHB := HB.out.lt
   obtain ⟨cBX, zBX⟩ := BX.out.reads
   have lBX := BX.out.lt
   obtain ⟨h1, -⟩ := HH.out
   have hE0 : Keeps NoB w0 w0.drew := (Keeps.refl _ _).drew
   refine wp_region_plan [(3, 0), (3, 1), (0, 2), (3, 3), (0, 4), (3, 5), (0, 6), (0, 7)] [] [8, 9, 10] [8, 9, 10] (ClsE w0) (by kernel_rfl) (by kernel_rfl) (by kernel_rfl) rfl rfl (ClsE.of hE0) (fun _ _ _ d _ h => by cases d <;> exact h) ?_; simp only [planL, nL]
   iterate 8 (first | (refine pR (by rfl) (fun W => by go_simp <;> with_reducible rfl) ?_; simp only [nP]) | (refine pX (by rfl) (by go_simp <;> with_reducible rfl) ?_; simp only [nP]))
   refine plan_nil ?_; simp only [tailL, List.filterMap_cons, List.filterMap_nil, nL]; change wpList _ _ _ (_ :: _ :: _ :: []) _ _
   clear cHB zHB lHB cBX zBX lBX
   clear h1
   go_wp2_with fail
   have by0 := (Box.new w0 4 [.bool m, .bool false])
   have ey : Ext w0 (w0.alloc (Obj.cells #[.bool m, .bool false] 4)) := ((Keeps.refl NoB w0).alloc _)
   have sy : (w0.alloc (Obj.cells #[.bool m, .bool false] 4)).heap.size = w0.heap.size + 1 := by simp
   generalize (w0.alloc (Obj.cells #[.bool m, .bool false] 4)) = w1 at by0 ey sy ⊢
   have Sy := Lib.hid sy
   clear sy
   have HE1 := Lib.hid ((HE.out.ext ey).drew)
   refine (acc_all2 w1.drew _ m false by0.drew).mono ?_
   rintro e' w2 ⟨rfl, rfl⟩
   clear ey by0 hE0
   go_wp2_with fail
   go_ret
   exact ⟨by simp, HE1.out⟩
theorem acc_all4 (w : World) (b : Nat) (x y z u : Bool) (hb : Box w b 4 [.bool x, .bool y, .bool z, .bool u]) : Calls Tryz.prog 288 #[.slice (some ⟨b, 0, none⟩) 4 4] w fun e w' => e = .returned (.bool (x && y && z && u)) ∧ w' = w := by
 have HB := Lib.hid hb
 clear hb
 go_enter Tryz.func288, Tryz.ntmps288
 obtain ⟨cHB, zHB⟩ := HB.out.reads
 have lHB := HB.out.lt
 go_wp2_with fail
 refine wp_loop_rounds 6 ?_
 rw [rounds_succ]
 cases x
 · go_wp2_with fail
   go_ret
   exact ⟨by simp, rfl⟩
 go_wp2_with fail
 rw [rounds_succ]
 cases y
 · go_wp2_with fail
   go_ret
   exact ⟨by simp, rfl⟩
 go_wp2_with fail
 rw [rounds_succ]
 cases z
 · go_wp2_with fail
   go_ret
   exact ⟨by simp, rfl⟩
 go_wp2_with fail
 rw [rounds_succ]
 cases u
 · go_wp2_with fail
   go_ret
   exact ⟨by simp, rfl⟩
 go_wp2_with fail
 rw [rounds_succ]
 go_wp2_with fail
 go_ret
 exact ⟨by simp, rfl⟩
def noneB (e : En) : Bool := decide (e = ⟨e.kind, 0, 0, []⟩)
theorem none_cases (e : En) : (e.member = 0 ∧ e.number = 0 ∧ (bs e.text).toList = [] ∧ noneB e = true) ∨ (e.member = 0 ∧ e.number = 0 ∧ ¬ (bs e.text).toList = [] ∧ noneB e = false) ∨ (e.member = 0 ∧ ¬ e.number = 0 ∧ noneB e = false) ∨ (¬ e.member = 0 ∧ noneB e = false) := by
 obtain ⟨k, m, n, t⟩ := e
 rw [bs_toList]
 unfold noneB
 by_cases hm : m = 0
 · by_cases hn : n = 0
   · by_cases ht : t = []
     · exact .inl ⟨hm, hn, ht, by subst hm hn ht; simp⟩
     · exact .inr (.inl ⟨hm, hn, ht, by simp [ht]⟩)
   · exact .inr (.inr (.inl ⟨hm, hn, by simp [hn]⟩))
 · exact .inr (.inr (.inr ⟨hm, by simp [hm]⟩))
theorem right2_any (w : World) (e : En) :
 Calls Tryz.prog 289 #[e.v] w fun r w' => r = .returned (.bool (noneB e)) ∧ Ext w w' := by
 unfold En.v
 go_enter Tryz.func289, Tryz.ntmps289
 go_wp2_with fail
 all_goals
  go_ret
  refine ⟨?_, (Keeps.refl _ _).alloc _⟩
  rcases none_cases e with ⟨h1, h2, h3, h4⟩ | ⟨h1, h2, h3, h4⟩ | ⟨h1, h2, h4⟩ | ⟨h1, h4⟩ <;> rw [h4] <;> first | rfl | (exfalso; simp_all)
def sayB (m : Bool) (e : En) : Bool := m && decide (1 ≤ e.number) && decide (e.number ≤ 2147483647) && (chk e.text == 0)
theorem right3_any (w : World) (k : Nat) (m : Bool) (e : En) (hk : Box w k 4 [.bool m])
 (hC : ∀ w1, Ext w w1 → Calls Tryz.prog 54 #[.string (bs e.text)] w1 fun r w' => r = .returned (.int .i64 (chk e.text : Int)) ∧ Ext w1 w') :
 Calls Tryz.prog 290 #[e.v, .pointer (some ⟨k, 0, none⟩)] w fun r w' => r = .returned (.bool (sayB m e)) ∧ Ext w w' := by
 have HB := Lib.hid hk
 have HC := Lib.hid hC
 clear hk hC
 unfold En.v
 go_enter Tryz.func290, Tryz.ntmps290
 obtain ⟨cHB, zHB⟩ := HB.out.reads
 have lHB := HB.out.lt
 go_wp2_with fail
 have bx0 := (Box.new w 35 [.int .i64 e.kind, .int .i64 e.member, .int .i64 e.number, .string (bs e.text)])
 have ex : Ext w (w.alloc (Obj.cells #[.int .i64 e.kind, .int .i64 e.member, .int .i64 e.number, .string (bs e.text)] 35)) := ((Keeps.refl NoB w).alloc _)
 have sx : (w.alloc (Obj.cells #[.int .i64 e.kind, .int .i64 e.member, .int .i64 e.number, .string (bs e.text)] 35)).heap.size = w.heap.size + 1 := by simp
 generalize (w.alloc (Obj.cells #[.int .i64 e.kind, .int .i64 e.member, .int .i64 e.number, .string (bs e.text)] 35)) = w0 at bx0 ex sx ⊢
 have Sx := Lib.hid sx
 clear sx
 have BX := Lib.hid bx0
 clear cHB zHB lHB
 replace HB := Lib.hid (HB.out.ext ex)
 have HE := Lib.hid ex
 clear bx0 ex
 obtain ⟨cHB, zHB⟩ := HB.out.reads
 have lHB := HB.out.lt
 obtain ⟨cBX, zBX⟩ := BX.out.reads
 have lBX := BX.out.lt
 have hE0 : Keeps NoB w0 w0.drew := (Keeps.refl _ _).drew
 refine wp_region_plan [(1, 0), (0, 1), (1, 2), (0, 3), (0, 4), (1, 5), (0, 6), (0, 7), (3, 8), (2, 9), (0, 10)] [0, 2, 5] [9, 11, 12, 13] [11, 12, 13] (ClsE w0) (by kernel_rfl) (by kernel_rfl) (by kernel_rfl) rfl rfl (ClsE.of hE0) (fun _ _ _ d _ h => by cases d <;> exact h) ?_; simp only [planL, nL]
 iterate 9 (first | (refine pR (by rfl) (fun W => by go_simp <;> with_reducible rfl) ?_; simp only [nP]) | (refine pX (by rfl) (by go_simp <;> with_reducible rfl) ?_; simp only [nP]) | (refine pL (by rfl) (fun W => by go_simp <;> with_reducible rfl) ?_; simp only [nP]))
 refine plan_does rfl (fun K hK => ?_)
 go_wp2_with fail
 refine (HC.out _ (HE.out.ext hE0)).mono ?_
 rintro r w2 ⟨rfl, hE2⟩
 have hE02 := hE0.ext hE2
 refine hK _ _ ⟨ClsE.of (by assumption), ?_⟩; clear hK K; try simp only [nP]
 refine pR rfl (fun W => by go_simp <;> with_reducible rfl) ?_; simp only [nP]
 refine plan_nil ?_; simp only [tailL, List.filterMap_cons, List.filterMap_nil, nL]; change wpList _ _ _ (_ :: _ :: _ :: []) _ _
 clear cHB zHB lHB cBX zBX lBX
 go_wp2_with fail
 have by0 := (Box.new w2 4 [.bool m, .bool (decide (1 ≤ e.number)), .bool (decide (e.number ≤ 2147483647)), .bool ((chk e.text : Int) == 0)])
 have ey : Ext w2 (w2.alloc (Obj.cells #[.bool m, .bool (decide (1 ≤ e.number)), .bool (decide (e.number ≤ 2147483647)), .bool ((chk e.text : Int) == 0)] 4)) := ((Keeps.refl NoB w2).alloc _)
 have sy : (w2.alloc (Obj.cells #[.bool m, .bool (decide (1 ≤ e.number)), .bool (decide (e.number ≤ 2147483647)), .bool ((chk e.text : Int) == 0)] 4)).heap.size = w2.heap.size + 1 := by simp
 generalize (w2.alloc (Obj.cells #[.bool m, .bool (decide (1 ≤ e.number)), .bool (decide (e.number ≤ 2147483647)), .bool ((chk e.text : Int) == 0)] 4)) = w3 at by0 ey sy ⊢
 have Sy := Lib.hid sy
 clear sy
 have HE3 := Lib.hid ((HE.out.ext hE02).ext ey)
 refine (acc_all4 w3 _ _ _ _ _ by0).mono ?_
 rintro e' w4 ⟨rfl, rfl⟩
 clear ey by0 hE0 hE02 hE2
 have hs : (m && decide (1 ≤ e.number) && decide (e.number ≤ 2147483647) && ((chk e.text : Int) == 0)) = sayB m e := by
  have : ((chk e.text : Int) == 0) = (chk e.text == 0) := by
   rw [Bool.eq_iff_iff]; simp
  rw [this]; rfl
 rw [hs]
 clear hs
 go_wp2_with fail
 go_ret
 exact ⟨by simp, HE3.out⟩
def enB (e : En) : Bool := if e.kind = 1 then noneB e else if e.kind = 2 ∨ e.kind = 3 then memB e.member && aloneB e else if e.kind = 4 then sayB (memB e.member) e else false
def rightD (k : Nat) : List (Int × Value) := [(1, .func (.func 289) #[] #[]), (2, .func (.func 287) #[] #[.pointer (some ⟨k, 0, none⟩)]), (3, .func (.func 287) #[] #[.pointer (some ⟨k, 0, none⟩)]), (4, .func (.func 290) #[] #[.pointer (some ⟨k, 0, none⟩)])]
def nofn : Value := .nilFunc
theorem look_right (k : Nat) (e : En) (z : Value) : (e.kind = 1 ∧ lookI (rightD k) e.kind z = (.func (.func 289) #[] #[], true)) ∨ ((e.kind ≠ 1 ∧ (e.kind = 2 ∨ e.kind = 3)) ∧ lookI (rightD k) e.kind z = (.func (.func 287) #[] #[.pointer (some ⟨k, 0, none⟩)], true)) ∨
 ((e.kind ≠ 1 ∧ ¬ (e.kind = 2 ∨ e.kind = 3) ∧ e.kind = 4) ∧ lookI (rightD k) e.kind z = (.func (.func 290) #[] #[.pointer (some ⟨k, 0, none⟩)], true)) ∨ ((e.kind ≠ 1 ∧ ¬ (e.kind = 2 ∨ e.kind = 3) ∧ e.kind ≠ 4) ∧ lookI (rightD k) e.kind z = (z, false)) := by
 by_cases h1 : e.kind = 1
 · exact .inl ⟨h1, by rw [h1]; rfl⟩
 by_cases h2 : e.kind = 2
 · exact .inr (.inl ⟨⟨h1, .inl h2⟩, by rw [h2]; rfl⟩)
 by_cases h3 : e.kind = 3
 · exact .inr (.inl ⟨⟨h1, .inr h3⟩, by rw [h3]; rfl⟩)
 by_cases h4 : e.kind = 4
 · exact .inr (.inr (.inl ⟨⟨h1, by omega, h4⟩, by rw [h4]; rfl⟩))
 · refine .inr (.inr (.inr ⟨⟨h1, by omega, h4⟩, ?_⟩))
   unfold lookI rightD
   have a1 : ¬ (1 : Int) = e.kind := fun h => h1 h.symm
   have a2 : ¬ (2 : Int) = e.kind := fun h => h2 h.symm
   have a3 : ¬ (3 : Int) = e.kind := fun h => h3 h.symm
   have a4 : ¬ (4 : Int) = e.kind := fun h => h4 h.symm
   simp [a1, a2, a3, a4]
theorem zeroFn (w : World) : (zeroValue 208).run Tryz.prog w = .ok nofn w := by kernel_rfl
theorem right_any (w : World) (e : En) (hI : I64 e.kind)
 (hC : e.kind = 4 → ∀ w1, Ext w w1 → Calls Tryz.prog 54 #[.string (bs e.text)] w1 fun r w' => r = .returned (.int .i64 (chk e.text : Int)) ∧ Ext w1 w') :
 Calls Tryz.prog 269 #[e.v] w fun r w' => r = .returned (.bool (enB e)) ∧ Ext w w' := by
 have HC := Lib.hid hC
 have HI := Lib.hid hI
 clear hC hI
 unfold En.v
 by_cases hm : 0 ≤ e.member
 · have hXM : Hid ((decide (e.member < 16)) = memB e.member) := Lib.hid (by unfold memB; rw [decide_eq_true hm, Bool.true_and])
   go_enter Tryz.func269, Tryz.ntmps269
   go_wp2_with fail
   have bx0 := ((Box.new w 35 [.int .i64 e.kind, .int .i64 e.member, .int .i64 e.number, .string (bs e.text)]).alloc (Obj.cells #[.bool (decide (e.member < 16))] 4))
   have bx1 := (Box.new (w.alloc (Obj.cells #[.int .i64 e.kind, .int .i64 e.member, .int .i64 e.number, .string (bs e.text)] 35)) 4 [.bool (decide (e.member < 16))])
   have ex : Ext w ((w.alloc (Obj.cells #[.int .i64 e.kind, .int .i64 e.member, .int .i64 e.number, .string (bs e.text)] 35)).alloc (Obj.cells #[.bool (decide (e.member < 16))] 4)) := (((Keeps.refl NoB w).alloc _).alloc _)
   have sx : ((w.alloc (Obj.cells #[.int .i64 e.kind, .int .i64 e.member, .int .i64 e.number, .string (bs e.text)] 35)).alloc (Obj.cells #[.bool (decide (e.member < 16))] 4)).heap.size = w.heap.size + 2 := by simp
   simp only [World.size_alloc] at bx1
   generalize ((w.alloc (Obj.cells #[.int .i64 e.kind, .int .i64 e.member, .int .i64 e.number, .string (bs e.text)] 35)).alloc (Obj.cells #[.bool (decide (e.member < 16))] 4)) = w0 at bx0 bx1 ex sx ⊢
   have Sx := Lib.hid sx
   clear sx
   have HX := Lib.hid ex
   have B0 := Lib.hid bx0
   have B1 := Lib.hid bx1
   have hlt := bx1.lt
   clear ex bx0 bx1
   rw [hXM.out] at B1
   obtain ⟨k, hk⟩ : ∃ k, w.heap.size + 1 = k := ⟨_, rfl⟩
   have HKK := Lib.hid hk
   rw [hk]
   clear hk
   have hmm := run_makeMap (P := Tryz.prog) 337 w0
   have put := fun (w : World) (D : List (Int × Value)) (m : Nat) (h : MapI w m D) (n : Int) (hn : I64 n) (hne : ∀ p ∈ D, p.1 ≠ n) (v : Value) => h.put Tryz.underlying337 Tryz.underlying33 hn hne v
   obtain ⟨w1, r1, m1, k1⟩ := put _ _ _ (mapi_new w0) 1 (i64_lit 1 rfl) (by simp) (.func (.func 289) #[] #[])
   obtain ⟨w2, r2, m2, k2⟩ := put _ _ _ m1 2 (i64_lit 2 rfl) (by simp) (.func (.func 287) #[] #[.pointer (some ⟨k, 0, none⟩)])
   obtain ⟨w3, r3, m3, k3⟩ := put _ _ _ m2 3 (i64_lit 3 rfl) (by simp) (.func (.func 287) #[] #[.pointer (some ⟨k, 0, none⟩)])
   obtain ⟨w4, r4, m4, k4⟩ := put _ _ _ m3 4 (i64_lit 4 rfl) (by simp) (.func (.func 290) #[] #[.pointer (some ⟨k, 0, none⟩)])
   have hE4 : Ext w0 w4 := ((Keeps.refl NoB w0).alloc _).then (((k1.trans k2).trans k3).trans k4) fun i hi h => absurd (show i = w0.heap.size from h) (by omega)
   have hlk : (Instr.lookup 337 (.map (some w0.heap.size)) (.int .i64 e.kind) true).run Tryz.prog w4 = .ok (.tuple #[(lookI (rightD k) e.kind nofn).1, .bool (lookI (rightD k) e.kind nofn).2]) w4 :=
    MapI.look (D := rightD k) m4 Tryz.underlying337 Tryz.underlying33 zeroFn HI.out (by unfold rightD; simp) true
   replace B0 := Lib.hid (B0.out.ext hE4)
   replace B1 := Lib.hid (B1.out.ext hE4)
   have HE := Lib.hid (HX.out.ext hE4)
   clear m1 m2 m3 m4 k1 k2 k3 k4 put hE4 hlt
   obtain ⟨cB0, zB0⟩ := B0.out.reads
   have lB0 := B0.out.lt
   rcases look_right k e nofn with ⟨h1, h2⟩ | ⟨h1, h2⟩ | ⟨h1, h2⟩ | ⟨h1, h2⟩
   · rw [h2] at hlk
     have H1 := Lib.hid h1
     clear h1 h2
     go_wp2_with fail
     refine (right2_any _ e).mono ?_
     rintro r w5 ⟨rfl, hE5⟩
     have HE5 := Lib.hid (HE.out.ext hE5)
     clear hE5
     clear cB0 zB0 lB0
     go_wp2_with fail
     go_ret
     exact ⟨by rw [enB, if_pos H1.out]; simp, HE5.out⟩
   · rw [h2] at hlk
     have H1 := Lib.hid h1
     clear h1 h2
     go_wp2_with fail
     refine (right1_any _ k (memB e.member) e (by have h9 := B1.out; rw [HKK.out] at h9; exact h9)).mono ?_
     rintro r w5 ⟨rfl, hE5⟩
     have HE5 := Lib.hid (HE.out.ext hE5)
     clear hE5
     clear cB0 zB0 lB0
     go_wp2_with fail
     go_ret
     exact ⟨by rw [enB, if_neg H1.out.1, if_pos H1.out.2]; simp, HE5.out⟩
   · rw [h2] at hlk
     have H1 := Lib.hid h1
     clear h1 h2
     go_wp2_with fail
     refine (right3_any _ k (memB e.member) e (by have h9 := B1.out; rw [HKK.out] at h9; exact h9) (fun W hW => HC.out H1.out.2.2 W (HE.out.ext hW))).mono ?_
     rintro r w5 ⟨rfl, hE5⟩
     have HE5 := Lib.hid (HE.out.ext hE5)
     clear hE5
     clear cB0 zB0 lB0
     go_wp2_with fail
     go_ret
     exact ⟨by rw [enB, if_neg H1.out.1, if_neg H1.out.2.1, if_pos H1.out.2.2]; simp, HE5.out⟩
   · rw [h2] at hlk
     have H1 := Lib.hid h1
     clear h1 h2
     go_wp2_with fail
     clear cB0 zB0 lB0
     go_ret
     exact ⟨by rw [enB, if_neg H1.out.1, if_neg H1.out.2.1, if_neg H1.out.2.2]; simp, HE.out⟩
 · have hXM : Hid (false = memB e.member) := Lib.hid (by unfold memB; rw [decide_eq_false hm, Bool.false_and])
   have hm2 : e.member < 0 := by omega
   go_enter Tryz.func269, Tryz.ntmps269
   go_wp2_with fail
   have bx0 := ((Box.new w 35 [.int .i64 e.kind, .int .i64 e.member, .int .i64 e.number, .string (bs e.text)]).alloc (Obj.cells #[.bool false] 4))
   have bx1 := (Box.new (w.alloc (Obj.cells #[.int .i64 e.kind, .int .i64 e.member, .int .i64 e.number, .string (bs e.text)] 35)) 4 [.bool false])
   have ex : Ext w ((w.alloc (Obj.cells #[.int .i64 e.kind, .int .i64 e.member, .int .i64 e.number, .string (bs e.text)] 35)).alloc (Obj.cells #[.bool false] 4)) := (((Keeps.refl NoB w).alloc _).alloc _)
   have sx : ((w.alloc (Obj.cells #[.int .i64 e.kind, .int .i64 e.member, .int .i64 e.number, .string (bs e.text)] 35)).alloc (Obj.cells #[.bool false] 4)).heap.size = w.heap.size + 2 := by simp
   simp only [World.size_alloc] at bx1
   generalize ((w.alloc (Obj.cells #[.int .i64 e.kind, .int .i64 e.member, .int .i64 e.number, .string (bs e.text)] 35)).alloc (Obj.cells #[.bool false] 4)) = w0 at bx0 bx1 ex sx ⊢
   have Sx := Lib.hid sx
   clear sx
   have HX := Lib.hid ex
   have B0 := Lib.hid bx0
   have B1 := Lib.hid bx1
   have hlt := bx1.lt
   clear ex bx0 bx1
   rw [hXM.out] at B1
   obtain ⟨k, hk⟩ : ∃ k, w.heap.size + 1 = k := ⟨_, rfl⟩
   have HKK := Lib.hid hk
   rw [hk]
   clear hk
   have hmm := run_makeMap (P := Tryz.prog) 337 w0
   have put := fun (w : World) (D : List (Int × Value)) (m : Nat) (h : MapI w m D) (n : Int) (hn : I64 n) (hne : ∀ p ∈ D, p.1 ≠ n) (v : Value) => h.put Tryz.underlying337 Tryz.underlying33 hn hne v
   obtain ⟨w1, r1, m1, k1⟩ := put _ _ _ (mapi_new w0) 1 (i64_lit 1 rfl) (by simp) (.func (.func 289) #[] #[])
   obtain ⟨w2, r2, m2, k2⟩ := put _ _ _ m1 2 (i64_lit 2 rfl) (by simp) (.func (.func 287) #[] #[.pointer (some ⟨k, 0, none⟩)])
   obtain ⟨w3, r3, m3, k3⟩ := put _ _ _ m2 3 (i64_lit 3 rfl) (by simp) (.func (.func 287) #[] #[.pointer (some ⟨k, 0, none⟩)])
   obtain ⟨w4, r4, m4, k4⟩ := put _ _ _ m3 4 (i64_lit 4 rfl) (by simp) (.func (.func 290) #[] #[.pointer (some ⟨k, 0, none⟩)])
   have hE4 : Ext w0 w4 := ((Keeps.refl NoB w0).alloc _).then (((k1.trans k2).trans k3).trans k4) fun i hi h => absurd (show i = w0.heap.size from h) (by omega)
   have hlk : (Instr.lookup 337 (.map (some w0.heap.size)) (.int .i64 e.kind) true).run Tryz.prog w4 = .ok (.tuple #[(lookI (rightD k) e.kind nofn).1, .bool (lookI (rightD k) e.kind nofn).2]) w4 :=
    MapI.look (D := rightD k) m4 Tryz.underlying337 Tryz.underlying33 zeroFn HI.out (by unfold rightD; simp) true
   replace B0 := Lib.hid (B0.out.ext hE4)
   replace B1 := Lib.hid (B1.out.ext hE4)
   have HE := Lib.hid (HX.out.ext hE4)
   clear m1 m2 m3 m4 k1 k2 k3 k4 put hE4 hlt
   obtain ⟨cB0, zB0⟩ := B0.out.reads
   have lB0 := B0.out.lt
   rcases look_right k e nofn with ⟨h1, h2⟩ | ⟨h1, h2⟩ | ⟨h1, h2⟩ | ⟨h1, h2⟩
   · rw [h2] at hlk
     have H1 := Lib.hid h1
     clear h1 h2
     go_wp2_with fail
     refine (right2_any _ e).mono ?_
     rintro r w5 ⟨rfl, hE5⟩
     have HE5 := Lib.hid (HE.out.ext hE5)
     clear hE5
     clear cB0 zB0 lB0
     go_wp2_with fail
     go_ret
     exact ⟨by rw [enB, if_pos H1.out]; simp, HE5.out⟩
   · rw [h2] at hlk
     have H1 := Lib.hid h1
     clear h1 h2
     go_wp2_with fail
     refine (right1_any _ k (memB e.member) e (by have h9 := B1.out; rw [HKK.out] at h9; exact h9)).mono ?_
     rintro r w5 ⟨rfl, hE5⟩
     have HE5 := Lib.hid (HE.out.ext hE5)
     clear hE5
     clear cB0 zB0 lB0
     go_wp2_with fail
     go_ret
     exact ⟨by rw [enB, if_neg H1.out.1, if_pos H1.out.2]; simp, HE5.out⟩
   · rw [h2] at hlk
     have H1 := Lib.hid h1
     clear h1 h2
     go_wp2_with fail
     refine (right3_any _ k (memB e.member) e (by have h9 := B1.out; rw [HKK.out] at h9; exact h9) (fun W hW => HC.out H1.out.2.2 W (HE.out.ext hW))).mono ?_
     rintro r w5 ⟨rfl, hE5⟩
     have HE5 := Lib.hid (HE.out.ext hE5)
     clear hE5
     clear cB0 zB0 lB0
     go_wp2_with fail
     go_ret
     exact ⟨by rw [enB, if_neg H1.out.1, if_neg H1.out.2.1, if_pos H1.out.2.2]; simp, HE5.out⟩
   · rw [h2] at hlk
     have H1 := Lib.hid h1
     clear h1 h2
     go_wp2_with fail
     clear cB0 zB0 lB0
     go_ret
     exact ⟨by rw [enB, if_neg H1.out.1, if_neg H1.out.2.1, if_neg H1.out.2.2]; simp, HE.out⟩
end
end Go.Proofs.YtoadjbgpfihoiaaGreatDoor
section
/- What of Go's library this program holds, laid at its numbers (written by the kit's tools lay-shelf, lay-plain). No condition. -/
namespace Go.Proofs
open Go.Shelf
def Tryz.laysValid_ren : Go.Shelf.Ren := ⟨fun | 196 => 127 | 259 => 184 | n => n, fun | 9 => 9 | 4 => 4 | 3 => 3 | 5 => 5 | 12 => 12 | 119 => 262 | 0 => 0 | 46 => 266 | 139 => 265 | 138 => 264 | 53 => 302 | n => n, fun | 3 => 0 | 4 => 1 | n => n⟩
theorem Tryz.laysValid : Go.Proofs.Lays.n196 Tryz.prog Tryz.laysValid_ren := {
  mixed := by kernel_rfl
  f196 := Tryz.func127.trans (congrArg some (by kernel_rfl))
  f259 := Tryz.func184.trans (congrArg some (by kernel_rfl))
  t0 := Tryz.underlying0
  a0 := Tryz.isAgg0
  z0 := Tryz.sizeOf0
  v0 := Tryz.zeroValue0
  t3 := Tryz.underlying3
  a3 := Tryz.isAgg3
  z3 := Tryz.sizeOf3
  v3 := Tryz.zeroValue3
  t4 := Tryz.underlying4
  a4 := Tryz.isAgg4
  z4 := Tryz.sizeOf4
  v4 := Tryz.zeroValue4
  t5 := Tryz.underlying5
  a5 := Tryz.isAgg5
  z5 := Tryz.sizeOf5
  v5 := Tryz.zeroValue5
  t9 := Tryz.underlying9
  a9 := Tryz.isAgg9
  z9 := Tryz.sizeOf9
  v9 := Tryz.zeroValue9
  t12 := Tryz.underlying12
  a12 := Tryz.isAgg12
  z12 := Tryz.sizeOf12
  v12 := Tryz.zeroValue12
  t46 := Tryz.underlying266
  a46 := Tryz.isAgg266
  z46 := Tryz.sizeOf266
  v46 := Tryz.zeroValue266
  t53 := Tryz.underlying302
  a53 := Tryz.isAgg302
  z53 := Tryz.sizeOf302
  v53 := Tryz.zeroValue302
  t119 := Tryz.underlying262
  a119 := Tryz.isAgg262
  z119 := Tryz.sizeOf262
  t138 := Tryz.underlying264
  a138 := Tryz.isAgg264
  z138 := Tryz.sizeOf264
  v138 := Tryz.zeroValue264
  t139 := Tryz.underlying265
  a139 := Tryz.isAgg265
  z139 := Tryz.sizeOf265
  v139 := Tryz.zeroValue265
  g3 := by kernel_rfl
  g4 := by kernel_rfl }
def Tryz.laysTrim_ren : Go.Shelf.Ren := ⟨fun | 160 => 131 | 232 => 187 | 231 => 186 | 227 => 188 | 234 => 190 | 233 => 189 | 236 => 192 | 235 => 191 | 228 => 224 | 271 => 227 | 151 => 226 | 197 => 225 | 120 => 277 | 152 => 276 | 260 => 275 | 137 => 292 | 119 => 293 | 224 => 294 | 225 => 295 | 217 => 302 | 266 => 306 | n => n, fun | 9 => 9 | 4 => 4 | 3 => 3 | 5 => 5 | 117 => 270 | 116 => 269 | 0 => 0 | 124 => 273 | 21 => 21 | 105 => 304 | 46 => 266 | 119 => 262 | 139 => 265 | 138 => 264 | n => n, fun | 3 => 0 | 4 => 1 | n => n⟩
theorem Tryz.laysTrim : Go.Proofs.Lays.n160 Tryz.prog Tryz.laysTrim_ren := {
  mixed := by kernel_rfl
  f119 := Tryz.func293.trans (congrArg some (by kernel_rfl))
  f120 := Tryz.func277.trans (congrArg some (by kernel_rfl))
  f137 := Tryz.func292.trans (congrArg some (by kernel_rfl))
  f151 := Tryz.func226.trans (congrArg some (by kernel_rfl))
  f152 := Tryz.func276.trans (congrArg some (by kernel_rfl))
  f160 := Tryz.func131.trans (congrArg some (by kernel_rfl))
  f197 := Tryz.func225.trans (congrArg some (by kernel_rfl))
  f217 := Tryz.func302.trans (congrArg some (by kernel_rfl))
  f224 := Tryz.func294.trans (congrArg some (by kernel_rfl))
  f225 := Tryz.func295.trans (congrArg some (by kernel_rfl))
  f227 := Tryz.func188.trans (congrArg some (by kernel_rfl))
  f228 := Tryz.func224.trans (congrArg some (by kernel_rfl))
  f231 := Tryz.func186.trans (congrArg some (by kernel_rfl))
  f232 := Tryz.func187.trans (congrArg some (by kernel_rfl))
  f233 := Tryz.func189.trans (congrArg some (by kernel_rfl))
  f234 := Tryz.func190.trans (congrArg some (by kernel_rfl))
  f235 := Tryz.func191.trans (congrArg some (by kernel_rfl))
  f236 := Tryz.func192.trans (congrArg some (by kernel_rfl))
  f260 := Tryz.func275.trans (congrArg some (by kernel_rfl))
  f266 := Tryz.func306.trans (congrArg some (by kernel_rfl))
  f271 := Tryz.func227.trans (congrArg some (by kernel_rfl))
  t0 := Tryz.underlying0
  a0 := Tryz.isAgg0
  z0 := Tryz.sizeOf0
  v0 := Tryz.zeroValue0
  t3 := Tryz.underlying3
  a3 := Tryz.isAgg3
  z3 := Tryz.sizeOf3
  v3 := Tryz.zeroValue3
  t4 := Tryz.underlying4
  a4 := Tryz.isAgg4
  z4 := Tryz.sizeOf4
  v4 := Tryz.zeroValue4
  t5 := Tryz.underlying5
  a5 := Tryz.isAgg5
  z5 := Tryz.sizeOf5
  v5 := Tryz.zeroValue5
  t9 := Tryz.underlying9
  a9 := Tryz.isAgg9
  z9 := Tryz.sizeOf9
  v9 := Tryz.zeroValue9
  t21 := Tryz.underlying21
  a21 := Tryz.isAgg21
  z21 := Tryz.sizeOf21
  v21 := Tryz.zeroValue21
  t46 := Tryz.underlying266
  a46 := Tryz.isAgg266
  z46 := Tryz.sizeOf266
  v46 := Tryz.zeroValue266
  t105 := Tryz.underlying304
  a105 := Tryz.isAgg304
  z105 := Tryz.sizeOf304
  v105 := Tryz.zeroValue304
  t116 := Tryz.underlying269
  a116 := Tryz.isAgg269
  z116 := Tryz.sizeOf269
  t117 := Tryz.underlying270
  a117 := Tryz.isAgg270
  z117 := Tryz.sizeOf270
  v117 := Tryz.zeroValue270
  t119 := Tryz.underlying262
  a119 := Tryz.isAgg262
  z119 := Tryz.sizeOf262
  t124 := Tryz.underlying273
  a124 := Tryz.isAgg273
  z124 := Tryz.sizeOf273
  v124 := Tryz.zeroValue273
  t138 := Tryz.underlying264
  a138 := Tryz.isAgg264
  z138 := Tryz.sizeOf264
  v138 := Tryz.zeroValue264
  t139 := Tryz.underlying265
  a139 := Tryz.isAgg265
  z139 := Tryz.sizeOf265
  v139 := Tryz.zeroValue265
  g3 := by kernel_rfl
  g4 := by kernel_rfl }
end Go.Proofs
end
namespace Go.Proofs.YtoadjbgpfihoiaaGreatDoor
open Go.RowKit
section
open Go.RowKit Go.Shelf
def Tabs (w : World) : Prop := Lib.Utf8Tabs (Tryz.laysValid_ren.g 3) (Tryz.laysValid_ren.g 4) w
theorem valid_any (w : World) (s : ByteArray) (hs : s.size ≤ 9223372036854775807) (hT : Tabs w) :
 Calls Tryz.prog 127 #[.string s] w fun e w' => e = .returned (.bool (Lib.validD s.data.toList)) ∧ Ext w w' :=
 (Any.utf8_ValidString Tryz.laysValid s w hs hT).mono fun e w' ⟨a, b⟩ => ⟨a, Ext.of_below b⟩
theorem trim_any (w : World) (s : ByteArray) (hs : s.size ≤ 9223372036854775807) :
 Calls Tryz.prog 131 #[.string s, .string ⟨#[32]⟩] w fun e w' => e = .returned (.string ⟨(Lib.trimB s.data.toList 32).toArray⟩) ∧ Ext w w' :=
 (Any.strings_Trim_one Tryz.laysTrim s 32 (by decide) w hs).mono fun e w' ⟨a, b⟩ => ⟨a, by
  rcases b with rfl | rfl
  · exact Keeps.refl _ _
  · exact Ext.drew0 _⟩
theorem long_any (w : World) (s : ByteArray) : Calls Tryz.prog 125 #[.string s] w fun e w' => e = .returned (.bool (decide (200 < s.size))) ∧ w' = w := by
 go_enter Tryz.func125, Tryz.ntmps125
 go_wp2_with fail
 go_ret
 simp
 omega
theorem broken_any (w : World) (s : ByteArray) (hs : s.size ≤ 9223372036854775807) (hT : Tabs w) : Calls Tryz.prog 126 #[.string s] w fun e w' => e = .returned (.bool (!Lib.validD s.data.toList)) ∧ Ext w w' := by
 have HT := Lib.hid hT
 clear hT
 go_enter Tryz.func126, Tryz.ntmps126
 go_wp2_with fail
 refine (valid_any _ s hs HT.out).mono ?_
 rintro e w' ⟨rfl, hE⟩
 have HE := Lib.hid hE
 clear hE
 go_wp2_with fail
 go_ret
 exact ⟨by simp, HE.out⟩
def badR (r : Nat) : Bool := decide (r < 32) || (decide (127 ≤ r) && decide (r < 160))
theorem rune_any (w : World) (r : Nat) : Calls Tryz.prog 129 #[.int .i32 r] w fun e w' => e = .returned (.bool (badR r)) ∧ w' = w := by
 by_cases h1 : r < 32
 · have g1 : (r : Int) < 32 := by omega
   go_enter Tryz.func129, Tryz.ntmps129
   go_wp2_with fail
   go_ret
   simp [badR, h1]
 · have g1 : ¬ (r : Int) < 32 := by omega
   by_cases h2 : 127 ≤ r
   · have g2 : (127 : Int) ≤ (r : Int) := by omega
     go_enter Tryz.func129, Tryz.ntmps129
     go_wp2_with fail
     go_ret
     simp [badR, h1, h2]
     omega
   · have g2 : ¬ (127 : Int) ≤ (r : Int) := by omega
     go_enter Tryz.func129, Tryz.ntmps129
     go_wp2_with fail
     go_ret
     simp [badR, h1, h2]
theorem badR_eq (x : Sg) : x.bad = badR x.n := by
 unfold Sg.bad badR
 congr 2
 exact decide_eq_decide.2 (by omega)
def badsF (l : List UInt8) (f p : Nat) : Bool := (signsF l f p).any (·.bad)
theorem bad_any (w : World) (c : Nat) (s : ByteArray) (hs : s.size ≤ 9223372036854775807) (hB : Box w c 186 [.func (.func 129) #[] #[]]) :
 Calls Tryz.prog 185 #[.string s, .pointer (some ⟨c, 0, none⟩)] w fun e w' => e = .returned (.bool (badsF s.data.toList s.size 0)) ∧ Ext w w' := by
 have HB := Lib.hid hB
 clear hB
 go_enter Tryz.func185, Tryz.ntmps185
 go_wp2_with fail
 have HE0 := Lib.hid ((Keeps.refl NoB w).alloc (.stringIter s 0))
 go_loopw [5] (fun r wr => ∃ (pos f : Nat), wr = w.iter s pos ∧ badsF s.data.toList f pos = badsF s.data.toList s.size 0 ∧ s.size ≤ pos + f) (fun _ wr => s.size - wr.iterPos w.heap.size)
 case atStart => exact ⟨0, s.size, rfl, rfl, by omega⟩
 case round =>
  obtain ⟨pos, f, rfl, hc, hf⟩ := hrel
  have hBx := (HB.out.ext ((Keeps.refl NoB w).alloc (.stringIter s pos)) : Box (w.iter s pos) _ _ _)
  have hlt := HB.out.lt
  by_cases hp : pos < s.size
  · have hnx : ∀ ty, (Instr.next (.pointer (some ⟨w.heap.size, 0, none⟩)) true ty).run Tryz.prog (w.iter s pos) = _ := fun ty => run_next_any w s pos ty hp
    have hb2 := (HB.out.ext ((Keeps.refl NoB w).alloc (.stringIter s (pos + (Utf8.decode s pos).2))) : Box (w.iter s (pos + (Utf8.decode s pos).2)) _ _ _)
    obtain ⟨f1, z1⟩ := hb2.reads
    clear hBx hb2
    have hw1 : 1 ≤ (Utf8.decode s pos).2 := by rw [← Lib.decodeL_drop]; exact decodeL_pos _
    obtain ⟨f, rfl⟩ : ∃ g, f = g + 1 := ⟨f - 1, by omega⟩
    have hstep : badsF s.data.toList (f + 1) pos = (badR (Utf8.decode s pos).1 || badsF s.data.toList f (pos + (Utf8.decode s pos).2)) := by
     unfold badsF
     rw [signsF_step _ _ _ hp, List.any_cons, badR_eq, Lib.decodeL_drop]
    rw [hstep] at hc
    have HC := Lib.hid hc
    have HW := Lib.hid hw1
    have HF := Lib.hid hf
    clear hstep hc hw1 hf
    go_wp2_with fail
    refine (rune_any _ _).mono ?_
    rintro e w' ⟨rfl, hw⟩
    rw [hw]
    clear hw w'
    cases hb : badR (Utf8.decode s pos).1
    · go_wp2_with fail
      go_roundw
      case rel =>
       have := HC.out
       rw [hb, Bool.false_or] at this
       exact ⟨_, f, rfl, this, by have := HF.out; have := HW.out; omega⟩
      case measure =>
       have := HW.out
       simp
       omega
    · go_wp2_with fail
      go_ret
      refine ⟨?_, (Keeps.refl NoB w).alloc _⟩
      have := HC.out
      rw [hb, Bool.true_or] at this
      rw [← this]
      rfl
  · have hnx : ∀ ty, (Instr.next (.pointer (some ⟨w.heap.size, 0, none⟩)) true ty).run Tryz.prog (w.iter s pos) = _ := fun ty => run_next_end w s pos ty hp
    have hend : badsF s.data.toList f pos = false := by unfold badsF; rw [signsF_end _ _ _ hp]; rfl
    rw [hend] at hc
    have HC := Lib.hid hc
    clear hend hc hBx
    go_wp2_with fail
    go_ret
    exact ⟨by rw [← HC.out]; rfl, (Keeps.refl NoB w).alloc _⟩
def blankR (l : List UInt8) : Bool := l.isEmpty || decide (Lib.trimB l 32 ≠ l)
theorem blank_any (w : World) (l : List UInt8) (hs : l.length ≤ 9223372036854775807) : Calls Tryz.prog 130 #[.string (bs l)] w fun e w' => e = .returned (.bool (blankR l)) ∧ Ext w w' := by
 have e1 := bs_toList l
 by_cases h0 : l = []
 · subst h0
   go_enter Tryz.func130, Tryz.ntmps130
   go_wp2_with fail
   go_ret
   exact ⟨rfl, Keeps.refl _ _⟩
 · have hd := bs_data l
   have hsz : (bs l).size ≤ 9223372036854775807 := by rw [Lib.size_eq, hd]; exact hs
   have hn : l.isEmpty = false := by cases l; exact absurd rfl h0; rfl
   have HD := Lib.hid hd
   have HN := Lib.hid hn
   clear hd hn hs
   have e2 := bs_toList (Lib.trimB l 32)
   by_cases ht : Lib.trimB l 32 = l
   · have HT := Lib.hid ht
     go_enter Tryz.func130, Tryz.ntmps130
     go_wp2_with fail
     refine (trim_any _ _ hsz).mono ?_
     rintro e w' ⟨rfl, hE⟩
     rw [HD.out, HT.out]
     have HE := Lib.hid hE
     clear hE ht e2
     go_wp2_with fail
     go_ret
     exact ⟨by simp [blankR, HN.out, HT.out], HE.out⟩
   · have HT := Lib.hid ht
     go_enter Tryz.func130, Tryz.ntmps130
     go_wp2_with fail
     refine (trim_any _ _ hsz).mono ?_
     rintro e w' ⟨rfl, hE⟩
     rw [HD.out, show (⟨(Lib.trimB l 32).toArray⟩ : ByteArray) = bs (Lib.trimB l 32) from rfl]
     have HE := Lib.hid hE
     clear hE
     go_wp2_with fail
     go_ret
     exact ⟨by simp [blankR, HN.out, HT.out], HE.out⟩
end
section
open Go.RowKit Go.Shelf
theorem Tabs.ext {w w' : World} (h : Tabs w) (e : Ext w w') : Tabs w' := Utf8Tabs_below h ⟨e.os, e.tape, e.output, e.size, fun k hk => e.block k hk (noB k)⟩
theorem made_bad (w : World) : Calls Tryz.prog 128 #[.func (.func 129) #[] #[]] w fun r w' => r = .returned (.func (.func 185) #[] #[.pointer (some ⟨w.heap.size, 0, none⟩)]) ∧ w' = w.alloc (.cells #[.func (.func 129) #[] #[]] 186) := by
 go_enter Tryz.func128, Tryz.ntmps128
 go_wp2_with fail
 go_ret
 exact ⟨rfl, rfl⟩
def chkR (l : List UInt8) : Nat := if 200 < l.length then 3 else if Lib.validD l = false then 130 else if badsF l l.length 0 = true then 131 else if blankR l = true then 132 else 0
theorem check_text (W w : World) (hT : Tabs W) (hE : Ext W w) (l : List UInt8) (hs : l.length ≤ 9223372036854775807) :
 Calls Tryz.prog 54 #[.string (bs l)] w fun r w' => r = .returned (.int .i64 (chkR l : Int)) ∧ Ext w w' := by
 have HM := Lib.hid (Mem.start0 w)
 have HT := Lib.hid (hT.ext hE)
 have HS := Lib.hid hs
 clear hT hE hs
 go_enter Tryz.func54, Tryz.ntmps54
 have fM := HM.out.fa
 go_wp2_with fail
 all_goals clear fM
 refine (made_bad _).mono ?_
 rintro r w1 ⟨rfl, rfl⟩
 have fM := HM.out.fa
 go_wp2_with fail
 all_goals clear fM
 refine nxt HM fun w1 M => ?_
 clear HM; have HM := M; clear M
 refine wp_loop_rounds 5 ?_
 rw [rounds_succ]
 have fM := HM.out.fa
 go_wp2_with fail
 all_goals clear fM
 refine nxt HM fun w2 M => ?_
 clear HM; have HM := M; clear M
 refine (long_any _ _).mono ?_
 rintro r wq ⟨rfl, hwq⟩
 rw [hwq, bs_size]
 clear hwq wq
 by_cases h1 : 200 < l.length
 · have HQ := Lib.hid (show chkR l = 3 by unfold chkR; rw [if_pos h1])
   rw [decide_eq_true h1]
   have fM := HM.out.fa
   go_wp2_with fail
   all_goals clear fM
   go_ret
   exact ⟨by rw [HQ.out]; rfl, HM.out.extTo⟩
 rw [decide_eq_false h1]
 have H1 := Lib.hid h1
 clear h1
 have fM := HM.out.fa
 go_wp2_with fail
 all_goals clear fM
 rw [rounds_succ]
 have fM := HM.out.fa
 go_wp2_with fail
 all_goals clear fM
 refine nxt HM fun w3 M => ?_
 clear HM; have HM := M; clear M
 refine (broken_any _ _ (by rw [bs_size]; exact HS.out) (HT.out.ext HM.out.extTo)).mono ?_
 rintro r w4 ⟨rfl, hE⟩
 replace HM := Lib.hid (HM.out.ext hE)
 clear hE
 rw [bs_data]
 cases h2 : Lib.validD l
 · have HQ := Lib.hid (show chkR l = 130 by unfold chkR; rw [if_neg H1.out, if_pos h2])
   clear h2
   rw [Bool.not_false]
   have fM := HM.out.fa
   go_wp2_with fail
   all_goals clear fM
   go_ret
   exact ⟨by rw [HQ.out]; rfl, HM.out.extTo⟩
 have H2 := Lib.hid h2
 clear h2
 rw [Bool.not_true]
 have fM := HM.out.fa
 go_wp2_with fail
 all_goals clear fM
 rw [rounds_succ]
 have fM := HM.out.fa
 go_wp2_with fail
 all_goals clear fM
 refine nxt HM fun w5 M => ?_
 clear HM; have HM := M; clear M
 obtain ⟨Ahb, hb⟩ := HM.out.get (r := cellsR w.heap.size 186 [.func (.func 129) #[] #[]]) pk
 refine (bad_any _ _ _ (by rw [bs_size]; exact HS.out) hb.2).mono ?_
 rintro r w6 ⟨rfl, hE⟩
 replace HM := Lib.hid (HM.out.ext hE)
 clear hE hb
 try clear Ahb
 rw [bs_data, bs_size]
 cases h3 : badsF l l.length 0
 case true =>
  have HQ := Lib.hid (show chkR l = 131 by unfold chkR; rw [if_neg H1.out, if_neg (by rw [H2.out]; exact Bool.noConfusion), if_pos h3])
  clear h3
  have fM := HM.out.fa
  go_wp2_with fail
  all_goals clear fM
  go_ret
  exact ⟨by rw [HQ.out]; rfl, HM.out.extTo⟩
 have H3 := Lib.hid h3
 clear h3
 have fM := HM.out.fa
 go_wp2_with fail
 all_goals clear fM
 rw [rounds_succ]
 have fM := HM.out.fa
 go_wp2_with fail
 all_goals clear fM
 refine nxt HM fun w7 M => ?_
 clear HM; have HM := M; clear M
 refine (blank_any _ _ HS.out).mono ?_
 rintro r w8 ⟨rfl, hE⟩
 replace HM := Lib.hid (HM.out.ext hE)
 clear hE
 cases h4 : blankR l
 case true =>
  have HQ := Lib.hid (show chkR l = 132 by unfold chkR; rw [if_neg H1.out, if_neg (by rw [H2.out]; exact Bool.noConfusion), if_neg (by rw [H3.out]; exact Bool.noConfusion), if_pos h4])
  clear h4
  have fM := HM.out.fa
  go_wp2_with fail
  all_goals clear fM
  go_ret
  exact ⟨by rw [HQ.out]; rfl, HM.out.extTo⟩
 have HQ := Lib.hid (show chkR l = 0 by unfold chkR; rw [if_neg H1.out, if_neg (by rw [H2.out]; exact Bool.noConfusion), if_neg (by rw [H3.out]; exact Bool.noConfusion), if_neg (by rw [h4]; exact Bool.noConfusion)])
 clear h4
 have fM := HM.out.fa
 go_wp2_with fail
 all_goals clear fM
 rw [rounds_succ]
 have fM := HM.out.fa
 go_wp2_with fail
 all_goals clear fM
 go_ret
 exact ⟨by rw [HQ.out]; rfl, HM.out.extTo⟩
end
section
open Go.RowKit Go.Shelf
theorem dropWhile_len (p : UInt8 → Bool) : ∀ l : List UInt8, (l.dropWhile p).length ≤ l.length
 | [] => Nat.le_refl _
 | x :: l => by
   rw [List.dropWhile_cons]
   split
   · have := dropWhile_len p l; rw [List.length_cons]; omega
   · exact Nat.le_refl _
theorem dropWhile_id (p : UInt8 → Bool) (l : List UInt8) : l.dropWhile p = l ↔ ∀ x, l.head? = some x → p x = false := by
 cases l with
 | nil => simp
 | cons y l =>
   rw [List.dropWhile_cons]
   constructor
   · intro h x hx
     obtain rfl : y = x := by simpa using hx
     cases hp : p y
     · rfl
     · rw [if_pos hp] at h
       have := dropWhile_len p l
       rw [h, List.length_cons] at this
       omega
   · intro h
     rw [if_neg (by rw [h y rfl]; exact Bool.noConfusion)]
theorem trim_id (l : List UInt8) : Lib.trimB l 32 = l ↔ l.head? ≠ some 32 ∧ l.getLast? ≠ some 32 := by
 unfold Lib.trimB Lib.trimLeftB Lib.trimRightB
 have k1 := dropWhile_len (fun x => x == 32) l.reverse
 have k2 := dropWhile_len (fun x => x == 32) (l.reverse.dropWhile (fun x => x == 32)).reverse
 constructor
 · intro h
   have hl := congrArg List.length h
   rw [List.length_reverse] at k1 k2
   have e1 : l.reverse.dropWhile (fun x => x == 32) = l.reverse := by
    have hs : (l.reverse.dropWhile (fun x => x == 32)).length = l.reverse.length := by rw [List.length_reverse]; omega
    exact (List.dropWhile_suffix _).eq_of_length hs
   rw [e1, List.reverse_reverse] at h
   constructor
   · intro hx
     have := (dropWhile_id _ _).1 h 32 hx
     simp at this
   · intro hx
     have := (dropWhile_id _ _).1 e1 32 (by rw [List.head?_reverse]; exact hx)
     simp at this
 · rintro ⟨h1, h2⟩
   have e1 : l.reverse.dropWhile (fun x => x == 32) = l.reverse := (dropWhile_id _ _).2 fun x hx => by
    rw [List.head?_reverse] at hx
    have : x ≠ 32 := fun e => h2 (by rw [hx, e])
    simpa using this
   rw [e1, List.reverse_reverse]
   exact (dropWhile_id _ _).2 fun x hx => by
    have : x ≠ 32 := fun e => h1 (by rw [hx, e])
    simpa using this
theorem blankR_eq (l : List UInt8) : blankR l = blankB l := by
 unfold blankR blankB
 have h := trim_id l
 by_cases h1 : l.head? = some 32
 · have : ¬ Lib.trimB l 32 = l := fun h2 => (h.1 h2).1 h1
   simp [h1, this]
 · by_cases h2 : l.getLast? = some 32
   · have : ¬ Lib.trimB l 32 = l := fun h3 => (h.1 h3).2 h2
     simp [h2, this]
   · have : Lib.trimB l 32 = l := h.2 ⟨h1, h2⟩
     rw [beq_eq_false_iff_ne.2 h1, beq_eq_false_iff_ne.2 h2]
     simp [this]
theorem chkR_eq (l : List UInt8) : chkR l = chk l := by
 unfold chkR chk
 have hv := valid_signs l l.length 0 (by omega)
 rw [List.drop_zero] at hv
 rw [blankR_eq, show badsF l l.length 0 = (signsL l).any (·.bad) from rfl]
 have hv' : Lib.validD l = !(signsL l).any (·.broken) := hv
 rw [hv']
 cases (signsL l).any (·.broken) <;> simp
theorem check_chk (W w : World) (hT : Tabs W) (hE : Ext W w) (l : List UInt8) (hs : l.length ≤ 9223372036854775807) :
 Calls Tryz.prog 54 #[.string (bs l)] w fun r w' => r = .returned (.int .i64 (chk l : Int)) ∧ Ext w w' := by
 rw [← chkR_eq]; exact check_text W w hT hE l hs
theorem tabs_of (W : World) (h : Tab W) : Tabs W := by
 have hL : laidMet Tryz.prog tables W := h
 exact utf8Tabs_of_readsT (U8Types.of196 Tryz.laysValid) ⟨by kernel_rfl, by kernel_rfl, by kernel_rfl, by kernel_rfl, by kernel_rfl, by kernel_rfl, by kernel_rfl⟩ (Lib.laidMet.reads hL (.tail _ (.head _))) (Lib.laidMet.reads hL (.head _))
end
end Go.Proofs.YtoadjbgpfihoiaaGreatDoor
