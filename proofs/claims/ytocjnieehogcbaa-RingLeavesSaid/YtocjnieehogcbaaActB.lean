/- The ring statements' call by both: Take and Clear. Conditions: the ring lies as 'RingX' says, the document's as 'RefX' says. -/
import Derived.Test.YtocjnieehogcbaaAct
set_option linter.unusedVariables false
set_option maxHeartbeats 400000
namespace Go.Proofs.Ytocjnieehogcbaa
open Go.RowKit

def it0 : It := ⟨false, 0, []⟩
theorem item0 (w : World) (A : Nat → Prop) : ItemV w A (.agg #[.bool false, .int .i64 0, .slice none 0 0]) it0 := ⟨_, rfl, SlV.nil⟩
theorem rtakeX {M : Nat → Prop} (w : World) (v : Value) (R : AR) (h : RefX w M v R) (hM : ∀ k, M k → k < w.heap.size) (hl : R.items.length ≤ 1000) :
    Calls Try.prog 43 #[v] w fun e w' =>
      ∃ v' vx, e = .returned (.tuple #[v', vx, .bool (!R.items.isEmpty)]) ∧ RefX w' M v' { R with items := R.items.tail } ∧ ItemV w' (fun k => k < w.heap.size ∧ ¬ M k) vx (R.items.headD it0) ∧ Ext w w' := by
  obtain ⟨m, l, its⟩ := R
  cases its with
  | nil =>
    obtain ⟨A, h1, h2⟩ := h
    exact (rtake_none w v m l h1).mono fun e w' ⟨he, hE⟩ => ⟨_, _, he, RefX.ext ⟨A, h1, h2⟩ hE, item0 _ _, hE⟩
  | cons x r =>
    obtain ⟨A, h1, h2⟩ := h
    exact (rtake_some w v m l x r h1 (by simp at hl; omega) (fun k hk => (h2 k hk).1)).mono fun e w' ⟨v', vx, he, k1, k2, hE⟩ => ⟨v', vx, he, RefX.put k1 h2 hM hE.size, k2.mono h2, hE⟩
theorem takeX {N : Nat → Prop} (w : World) (b : Nat) (R : AR) (h : RingX w N b R) :
    Calls Try.prog 16 #[.pointer (some ⟨b, 0, none⟩)] w fun e w' =>
      ∃ v, e = .returned (.tuple #[v, .bool (!R.items.isEmpty)]) ∧ ItemV w' (fun k => k < w.heap.size ∧ k ≠ b ∧ ¬ N k) v (R.items.headD it0) ∧ RingX w' N b { R with items := R.items.tail } ∧ Keeps (OneB b) w w' := by
  obtain ⟨m, l, its⟩ := R
  cases its with
  | nil => exact (take_x0 w b m l h).mono fun e w' ⟨he, hE⟩ => ⟨_, he, item0 _ _, h.ext hE, Ext.keeps hE⟩
  | cons x r => exact (take_x w b m l x r h).mono fun e w' ⟨v, he, k1, k2, k3⟩ => ⟨v, he, k1, k2, k3⟩

theorem act_take {M N B : Nat → Prop} (w : World) (b : Nat) (R : AR) (vw bv : Value) (x : It) (hr : RingX w N b R) (hw : RefX w M vw R) (hb : Bytes w B bv x.bytes) (hM : ∀ k, M k → k < w.heap.size) (hN : ∀ k, N k → k < w.heap.size) (hMb : M b) (hNb : ¬ N b)
    (hl : R.items.length ≤ 1000) :
    Calls Try.prog 20 #[.pointer (some ⟨b, 0, none⟩), vw, .agg #[.int .i64 1, .bool x.side, .int .i64 x.key, bv]] w (ActPost w M N b R ⟨1, x⟩) := by
  have HR := Lib.hid hr
  have HW := Lib.hid hw
  have HM := Lib.hid hM
  have HN := Lib.hid hN
  have HMB := Lib.hid hMb
  have HNB := Lib.hid hNb
  obtain ⟨a, c, rfl⟩ := hw.len
  obtain ⟨a2, c2, rfl⟩ := hb.len
  obtain ⟨xs, xk, xb⟩ := x
  dsimp only at hb ⊢
  have hbw := hr.lt
  clear hr hw hM hN hb hMb hNb
  go_enter Try.func20, Try.ntmps20
  go_wp2_with fail
  have bx0 := (((Box.new w 48 [.int .i64 (R.most : Int), .slice a R.items.length c, .int .i64 (R.lost : Int)]).alloc (Obj.cells #[.int .i64 1, .bool xs, .int .i64 xk, .slice a2 xb.length c2] 42)).alloc (Obj.cells #[.int .i64 0, .slice none 0 0, .int .i64 0] 48))
  have bx1 := ((Box.new (w.alloc (Obj.cells #[.int .i64 (R.most : Int), .slice a R.items.length c, .int .i64 (R.lost : Int)] 48)) 42 [.int .i64 1, .bool xs, .int .i64 xk, .slice a2 xb.length c2]).alloc (Obj.cells #[.int .i64 0, .slice none 0 0, .int .i64 0] 48))
  have bx2 := (Box.new ((w.alloc (Obj.cells #[.int .i64 (R.most : Int), .slice a R.items.length c, .int .i64 (R.lost : Int)] 48)).alloc (Obj.cells #[.int .i64 1, .bool xs, .int .i64 xk, .slice a2 xb.length c2] 42)) 48 [.int .i64 0, .slice none 0 0, .int .i64 0])
  have ex : Ext w (((w.alloc (Obj.cells #[.int .i64 (R.most : Int), .slice a R.items.length c, .int .i64 (R.lost : Int)] 48)).alloc (Obj.cells #[.int .i64 1, .bool xs, .int .i64 xk, .slice a2 xb.length c2] 42)).alloc (Obj.cells #[.int .i64 0, .slice none 0 0, .int .i64 0] 48)) := ((((Keeps.refl NoB w).alloc _).alloc _).alloc _)
  have sx : (((w.alloc (Obj.cells #[.int .i64 (R.most : Int), .slice a R.items.length c, .int .i64 (R.lost : Int)] 48)).alloc (Obj.cells #[.int .i64 1, .bool xs, .int .i64 xk, .slice a2 xb.length c2] 42)).alloc (Obj.cells #[.int .i64 0, .slice none 0 0, .int .i64 0] 48)).heap.size = w.heap.size + 3 := by simp
  simp only [World.size_alloc] at bx1 bx2
  generalize (((w.alloc (Obj.cells #[.int .i64 (R.most : Int), .slice a R.items.length c, .int .i64 (R.lost : Int)] 48)).alloc (Obj.cells #[.int .i64 1, .bool xs, .int .i64 xk, .slice a2 xb.length c2] 42)).alloc (Obj.cells #[.int .i64 0, .slice none 0 0, .int .i64 0] 48)) = w0 at bx0 bx1 bx2 ex sx ⊢
  have Sx := Lib.hid sx
  clear sx
  refine (rtakeX (M := fun k => M k ∨ k = w.heap.size + 1 + 1) w0 _ R (HW.out.more ex (fun k hk => by
    rcases hk with hk | hk
    · exact .inl hk
    · exact .inr (by omega))) (fun k hk => by
    rcases hk with hk | hk
    · exact Nat.lt_of_lt_of_le (HM.out k hk) ex.size
    · have := bx2.lt; omega) hl).mono ?_
  rintro e w1 ⟨v', vx, rfl, hx1, hy1, hE1⟩
  obtain ⟨is, his⟩ : ∃ is, (!R.items.isEmpty) = is := ⟨_, rfl⟩
  obtain ⟨y, hy⟩ : ∃ y, R.items.headD it0 = y := ⟨_, rfl⟩
  obtain ⟨T, hT⟩ : ∃ T, R.items.tail = T := ⟨_, rfl⟩
  rw [his]
  rw [hy] at hy1
  rw [hT] at hx1
  have HT := Lib.hid hT
  have HIS := Lib.hid his
  have HY := Lib.hid hy
  obtain ⟨a1, c1, rfl⟩ := hx1.len
  dsimp only at hx1 ⊢
  have HY1 := Lib.hid hy1
  obtain ⟨by1v, rfl, hy1b⟩ := hy1
  obtain ⟨ay, cy, rfl⟩ := hy1b.len
  have HX1 := Lib.hid hx1
  have BR := Lib.hid (bx2.ext hE1)
  obtain ⟨p2, z2⟩ := BR.out.reads
  have l0 := (bx0.ext hE1).lt
  have l1 := (bx1.ext hE1).lt
  have l2 := BR.out.lt
  have HE1 := Lib.hid (ex.ext hE1)
  have hw01 := hE1.size
  clear hx1 hE1 ex bx0 bx1 bx2 his hy hy1b hT
  go_wp2_with fail
  have by0 := ((Box.new w1 48 [.int .i64 (R.most : Int), .slice a1 T.length c1, .int .i64 (R.lost : Int)]).alloc (Obj.cells #[.bool y.side, .int .i64 y.key, .slice ay y.bytes.length cy] 31))
  have by1 := (Box.new (w1.alloc (Obj.cells #[.int .i64 (R.most : Int), .slice a1 T.length c1, .int .i64 (R.lost : Int)] 48)) 31 [.bool y.side, .int .i64 y.key, .slice ay y.bytes.length cy])
  have ey : Ext w1 ((w1.alloc (Obj.cells #[.int .i64 (R.most : Int), .slice a1 T.length c1, .int .i64 (R.lost : Int)] 48)).alloc (Obj.cells #[.bool y.side, .int .i64 y.key, .slice ay y.bytes.length cy] 31)) := (((Keeps.refl NoB w1).alloc _).alloc _)
  have sy : ((w1.alloc (Obj.cells #[.int .i64 (R.most : Int), .slice a1 T.length c1, .int .i64 (R.lost : Int)] 48)).alloc (Obj.cells #[.bool y.side, .int .i64 y.key, .slice ay y.bytes.length cy] 31)).heap.size = w1.heap.size + 2 := by simp
  simp only [World.size_alloc] at by1
  generalize ((w1.alloc (Obj.cells #[.int .i64 (R.most : Int), .slice a1 T.length c1, .int .i64 (R.lost : Int)] 48)).alloc (Obj.cells #[.bool y.side, .int .i64 y.key, .slice ay y.bytes.length cy] 31)) = w2 at by0 by1 ey sy ⊢
  have Sy := Lib.hid sy
  clear sy
  have B0 := Lib.hid by0
  have B1 := Lib.hid by1
  have HR2 := Lib.hid ((HR.out.ext HE1.out).ext ey)
  replace BR := Lib.hid (BR.out.ext ey)
  have HEY := Lib.hid ey
  clear p2 z2 by0 by1 ey
  refine (takeX (N := fun k => N k ∨ k = w.heap.size + 1 + 1) w2 b R (HR.out.grow (Ext.keeps (HE1.out.ext HEY.out)) HNB.out (fun k hk => by
    rcases hk with hk | hk
    · exact .inl hk
    · exact .inr (by omega)))).mono ?_
  rintro e w3 ⟨vz, rfl, hz, hr3, hk3⟩
  rw [HIS.out]
  rw [HY.out] at hz
  rw [HT.out] at hr3
  have HZ := Lib.hid hz
  obtain ⟨bz, rfl, hzb⟩ := hz
  obtain ⟨az, cz, rfl⟩ := hzb.len
  have HR3 := Lib.hid hr3
  have HK3 := Lib.hid hk3
  replace B0 := Lib.hid (B0.out.keeps hk3 (fun h2 => by unfold OneB at h2; omega))
  replace B1 := Lib.hid (B1.out.keeps hk3 (fun h2 => by unfold OneB at h2; omega))
  replace BR := Lib.hid (BR.out.keeps hk3 (fun h2 => by unfold OneB at h2; omega))
  have hb0 := B0.out
  have hb1 := B1.out
  have hbr := BR.out
  obtain ⟨c0, z0⟩ := hb0.reads
  obtain ⟨c1', z1⟩ := hb1.reads
  obtain ⟨c2', z2⟩ := hbr.reads
  have l30 := hb0.lt
  have l31 := hb1.lt
  have l32 := hbr.lt
  have h13 := HEY.out.size
  have h23 := hk3.size
  clear hr3 hk3 hb0 hb1 hbr hzb
  go_wp2_with fail
  have bz0 := (Box.new w3 31 [.bool y.side, .int .i64 y.key, .slice az y.bytes.length cz])
  have ez : Ext w3 (w3.alloc (Obj.cells #[.bool y.side, .int .i64 y.key, .slice az y.bytes.length cz] 31)) := ((Keeps.refl NoB w3).alloc _)
  have sz : (w3.alloc (Obj.cells #[.bool y.side, .int .i64 y.key, .slice az y.bytes.length cz] 31)).heap.size = w3.heap.size + 1 := by simp
  generalize (w3.alloc (Obj.cells #[.bool y.side, .int .i64 y.key, .slice az y.bytes.length cz] 31)) = w4 at bz0 ez sz ⊢
  have Sz := Lib.hid sz
  clear sz
  have HK4 := Lib.hid (HK3.out.ext ez)
  have HR4 := Lib.hid (HR3.out.ext ez)
  have HZ4 := Lib.hid (HZ.out.keeps (Ext.keeps ez : Keeps NoB w3 w4) (fun _ _ => noB _))
  have HY4 := Lib.hid ((HY1.out.keeps (Ext.keeps HEY.out : Keeps NoB w1 w2) (fun _ _ => noB _)).keeps HK4.out (fun k hk h2 => by unfold OneB at h2; subst h2; exact hk.2 (.inl HMB.out)))
  replace B0 := Lib.hid (B0.out.ext ez)
  replace B1 := Lib.hid (B1.out.ext ez)
  replace BR := Lib.hid (BR.out.ext ez)
  have hb0 := B0.out
  have hb1 := B1.out
  have hbr := BR.out
  obtain ⟨d0, y0⟩ := hb0.reads
  obtain ⟨d1, y1⟩ := hb1.reads
  obtain ⟨d2, y2⟩ := hbr.reads
  obtain ⟨d3, y3⟩ := bz0.reads
  have l40 := hb0.lt
  have l41 := hb1.lt
  have l42 := hbr.lt
  have l43 := bz0.lt
  have h34 := ez.size
  have n1 : ¬ w.heap.size + 1 + 1 = w1.heap.size := by omega
  have n2 : ¬ w.heap.size + 1 + 1 = w1.heap.size + 1 := by omega
  have n3 : ¬ w.heap.size + 1 + 1 = w3.heap.size := by omega
  have n4 : ¬ w1.heap.size = w.heap.size + 1 + 1 := by omega
  have hE0' : Keeps NoB w4 w4.drew := (Keeps.refl _ _).drew
  clear c0 c1' c2' z0 z1 z2 hb0 hb1 hbr ez bz0
  have hE0 : Keeps NoB w4 w4.drew := (Keeps.refl _ _).drew
  refine wp_region_plan [(1, 0), (0, 1), (0, 2), (0, 3), (0, 4), (3, 5), (3, 6), (2, 7), (0, 8)] [0] [7, 9, 10] [9, 10] (ClsE w4) (by kernel_rfl) (by kernel_rfl) (by kernel_rfl) rfl rfl (ClsE.of hE0) (fun _ _ _ d _ h => by cases d <;> exact h) ?_; simp only [planL, List.getElem?_toArray, List.getElem?_cons_succ, List.getElem?_cons_zero]
  refine plan_load rfl (fun K hK => quiet_runE (v := ?_) (fun W => ?_) (hK _ ?_)); rotate_left; (go_simp <;> with_reducible rfl); clear hK K; simp only [Act.put, List.setIfInBounds_toArray, List.set_cons_zero, List.set_cons_succ]
  refine plan_pure rfl (fun K hK => quiet_move' _ rfl (hK _ ?_)); clear hK K; simp only [Act.put, Act.eval, Array.getD_eq_getD_getElem?, List.getElem?_toArray, List.getElem?_cons_zero, List.getElem?_cons_succ, Option.getD_some, List.setIfInBounds_toArray, List.set_cons_zero, List.set_cons_succ]
  refine plan_pure rfl (fun K hK => quiet_move' _ rfl (hK _ ?_)); clear hK K; simp only [Act.put, Act.eval, Array.getD_eq_getD_getElem?, List.getElem?_toArray, List.getElem?_cons_zero, List.getElem?_cons_succ, Option.getD_some, List.setIfInBounds_toArray, List.set_cons_zero, List.set_cons_succ]
  refine plan_pure rfl (fun K hK => quiet_run (v := ?_) (fun W _ => ?_) (hK _ ?_)); rotate_left; (go_simp <;> with_reducible rfl); clear hK K; simp only [Act.put, List.setIfInBounds_toArray, List.set_cons_zero, List.set_cons_succ]
  refine plan_pure rfl (fun K hK => quiet_move' _ rfl (hK _ ?_)); clear hK K; simp only [Act.put, Act.eval, Array.getD_eq_getD_getElem?, List.getElem?_toArray, List.getElem?_cons_zero, List.getElem?_cons_succ, Option.getD_some, List.setIfInBounds_toArray, List.set_cons_zero, List.set_cons_succ]
  first
  | (refine plan_skip rfl ?_; simp only [Act.put, List.setIfInBounds_toArray, List.set_cons_zero, List.set_cons_succ])
  | (refine plan_exact rfl (fun K hK => quiet_runX (v := ?_) ?_ (hK _ ?_)); rotate_left; (go_simp <;> with_reducible rfl); clear hK K; simp only [Act.put, List.setIfInBounds_toArray, List.set_cons_zero, List.set_cons_succ])
  first
  | (refine plan_skip rfl ?_; simp only [Act.put, List.setIfInBounds_toArray, List.set_cons_zero, List.set_cons_succ])
  | (refine plan_exact rfl (fun K hK => quiet_runX (v := ?_) ?_ (hK _ ?_)); rotate_left; (go_simp <;> with_reducible rfl); clear hK K; simp only [Act.put, List.setIfInBounds_toArray, List.set_cons_zero, List.set_cons_succ])
  first
  | (refine plan_skip rfl ?_; simp only [Act.put, List.setIfInBounds_toArray, List.set_cons_zero, List.set_cons_succ])
  | (refine plan_does rfl (fun K hK => ?_))
  go_wp2_with fail
  refine (same_item _ y y _ _ (HY4.out.keeps hE0' (fun _ _ => noB _)) (HZ4.out.keeps hE0' (fun _ _ => noB _))).mono ?_
  rintro e w5 ⟨rfl, hE5⟩
  rw [sameI_self]
  have hE5' : Ext w4 w5 := hE0'.ext hE5
  have HE5 := Lib.hid hE5'
  obtain ⟨f2, x2⟩ := (BR.out.ext hE5').reads
  have l52 := (BR.out.ext hE5').lt
  refine hK _ _ ⟨ClsE.of (by assumption), ?_⟩; clear hK K; try simp only [Act.put, List.setIfInBounds_toArray, List.set_cons_zero, List.set_cons_succ]
  refine plan_pure rfl (fun K hK => quiet_run (v := ?_) (fun W _ => ?_) (hK _ ?_)); rotate_left; (go_simp <;> with_reducible rfl); clear hK K; simp only [Act.put, List.setIfInBounds_toArray, List.set_cons_zero, List.set_cons_succ]
  refine plan_nil ?_; simp only [tailL, List.filterMap_cons, List.filterMap_nil, List.getElem?_toArray, List.getElem?_cons_succ, List.getElem?_cons_zero]; change wpList _ _ _ (_ :: _ :: []) _ _
  go_wp2_with fail
  have HBR5 := Lib.hid (BR.out.ext HE5.out)
  have r1 := (((HBR5.out.set 0 (.int .i64 (R.most : Int))).set 1 (.slice a1 T.length c1)).set 2 (.int .i64 (R.lost : Int))).reads.1
  dsimp only [List.set_cons_zero, List.set_cons_succ] at r1
  clear d0 d1 d2 d3 y0 y1 y2 y3 f2 x2
  refine bodyPost_ret (v := .tuple #[.agg #[.int .i64 (R.most : Int), .slice a1 T.length c1, .int .i64 (R.lost : Int)], .bool true]) (by simp [results, Try.results20, go_sem, r1]) rfl ?_
  have hfin : Keeps (OneB (w.heap.size + 1 + 1)) w5 (((w5.setCell ⟨w.heap.size + 1 + 1, 0, none⟩ (.int .i64 (R.most : Int))).setCell ⟨w.heap.size + 1 + 1, 1, none⟩ (.slice a1 T.length c1)).setCell ⟨w.heap.size + 1 + 1, 2, none⟩ (.int .i64 (R.lost : Int))) :=
    (((Keeps.refl _ w5).setOne _ _).setOne _ _).setOne _ _
  have h4f := (Ext.keeps HE5.out).trans hfin
  have h2f : Keeps (fun k => k = b ∨ k = w.heap.size + 1 + 1) w2 _ := (HK4.out.mono (T := fun k => k = b ∨ k = w.heap.size + 1 + 1) (fun k _ h => .inl h)).trans (h4f.mono (fun k _ h => .inr h))
  have hact : R.act ⟨1, ⟨xs, xk, xb⟩⟩ = { R with items := T } := by unfold AR.act; rw [if_neg (by show ¬ ((1 : Int) = 0); decide), if_pos rfl, HT.out]
  refine ⟨_, rfl, ?_, ?_, ?_⟩
  · rw [hact]
    exact ((HX1.out.ext HEY.out).keeps h2f (fun k _ hk => by
      rcases hk with rfl | rfl
      · exact .inl HMB.out
      · exact .inr rfl)).less (fun k hk => .inl hk)
  · rw [hact]
    exact (HR4.out.keeps h4f (fun k h => .inr h) (by unfold OneB; omega)).less (fun k hk => .inl hk)
  · exact (Ext.keeps (HE1.out.ext HEY.out) : Keeps (OneB b) w w2).then h2f (fun i hi h2 => by
      rcases h2 with h2 | h2
      · exact h2
      · omega)

theorem act_clear {M N B : Nat → Prop} (w : World) (b : Nat) (R : AR) (vw bv : Value) (what : Int) (x : It) (hr : RingX w N b R) (hw : RefX w M vw R) (hb : Bytes w B bv x.bytes) (hM : ∀ k, M k → k < w.heap.size) (hN : ∀ k, N k → k < w.heap.size) (hMb : M b) (hNb : ¬ N b)
    (hl : R.items.length ≤ 1000) (h0 : what ≠ 0) (h1 : what ≠ 1) :
    Calls Try.prog 20 #[.pointer (some ⟨b, 0, none⟩), vw, .agg #[.int .i64 what, .bool x.side, .int .i64 x.key, bv]] w (ActPost w M N b R ⟨what, x⟩) := by
  have HR := Lib.hid hr
  have HM := Lib.hid hM
  have HN := Lib.hid hN
  have HMB := Lib.hid hMb
  have HNB := Lib.hid hNb
  obtain ⟨a, c, rfl⟩ := hw.len
  obtain ⟨a2, c2, rfl⟩ := hb.len
  obtain ⟨xs, xk, xb⟩ := x
  have g0 : (what == 0) = false := beq_eq_false_iff_ne.2 h0
  have g1 : (what == 1) = false := beq_eq_false_iff_ne.2 h1
  have H0 := Lib.hid h0
  have H1 := Lib.hid h1
  obtain ⟨rm, rl, its⟩ := R
  dsimp only at hb hl ⊢
  have hbw := hr.lt
  clear hr hw hM hN hb hMb hNb h0 h1
  go_enter Try.func20, Try.ntmps20
  go_wp2_with fail
  have bx0 := (((Box.new w 48 [.int .i64 (rm : Int), .slice a its.length c, .int .i64 (rl : Int)]).alloc (Obj.cells #[.int .i64 what, .bool xs, .int .i64 xk, .slice a2 xb.length c2] 42)).alloc (Obj.cells #[.int .i64 0, .slice none 0 0, .int .i64 0] 48))
  have bx1 := ((Box.new (w.alloc (Obj.cells #[.int .i64 (rm : Int), .slice a its.length c, .int .i64 (rl : Int)] 48)) 42 [.int .i64 what, .bool xs, .int .i64 xk, .slice a2 xb.length c2]).alloc (Obj.cells #[.int .i64 0, .slice none 0 0, .int .i64 0] 48))
  have bx2 := (Box.new ((w.alloc (Obj.cells #[.int .i64 (rm : Int), .slice a its.length c, .int .i64 (rl : Int)] 48)).alloc (Obj.cells #[.int .i64 what, .bool xs, .int .i64 xk, .slice a2 xb.length c2] 42)) 48 [.int .i64 0, .slice none 0 0, .int .i64 0])
  have ex : Ext w (((w.alloc (Obj.cells #[.int .i64 (rm : Int), .slice a its.length c, .int .i64 (rl : Int)] 48)).alloc (Obj.cells #[.int .i64 what, .bool xs, .int .i64 xk, .slice a2 xb.length c2] 42)).alloc (Obj.cells #[.int .i64 0, .slice none 0 0, .int .i64 0] 48)) := ((((Keeps.refl NoB w).alloc _).alloc _).alloc _)
  have sx : (((w.alloc (Obj.cells #[.int .i64 (rm : Int), .slice a its.length c, .int .i64 (rl : Int)] 48)).alloc (Obj.cells #[.int .i64 what, .bool xs, .int .i64 xk, .slice a2 xb.length c2] 42)).alloc (Obj.cells #[.int .i64 0, .slice none 0 0, .int .i64 0] 48)).heap.size = w.heap.size + 3 := by simp
  simp only [World.size_alloc] at bx1 bx2
  generalize (((w.alloc (Obj.cells #[.int .i64 (rm : Int), .slice a its.length c, .int .i64 (rl : Int)] 48)).alloc (Obj.cells #[.int .i64 what, .bool xs, .int .i64 xk, .slice a2 xb.length c2] 42)).alloc (Obj.cells #[.int .i64 0, .slice none 0 0, .int .i64 0] 48)) = w0 at bx0 bx1 bx2 ex sx ⊢
  have Sx := Lib.hid sx
  clear sx
  have HE := Lib.hid ex
  have B0 := Lib.hid bx0
  have BR := Lib.hid bx2
  obtain ⟨c0, z0⟩ := bx0.reads
  obtain ⟨c2', z2⟩ := bx2.reads
  have l0 := bx0.lt
  have l1 := bx1.lt
  have l2 := bx2.lt
  have nb0 : ¬ w.heap.size = b := by omega
  have nb2 : ¬ w.heap.size + 1 + 1 = b := by omega
  have nb3 : ¬ TwoB b (w.heap.size + 1 + 1) w.heap.size := by unfold TwoB; omega
  clear ex bx0 bx1 bx2
  have hE0 : Keeps (TwoB b (w.heap.size + 1 + 1)) w0 w0.drew := (Keeps.refl _ _).drew
  refine wp_region_plan [(0, 0), (1, 1), (0, 2), (1, 3), (0, 4), (0, 5), (0, 7), (1, 8), (0, 9), (2, 6), (0, 10), (2, 11), (0, 12)] [1, 3, 8] [6, 11] [] (ClsK (TwoB b (w.heap.size + 1 + 1)) w0) (by kernel_rfl) (by kernel_rfl) (by kernel_rfl) rfl rfl (ClsK.of hE0) (fun _ _ _ d _ h => by cases d <;> exact h) ?_; simp only [planL, List.getElem?_toArray, List.getElem?_cons_succ, List.getElem?_cons_zero]
  refine plan_pure rfl (fun K hK => quiet_run (v := ?_) (fun W _ => ?_) (hK _ ?_)); rotate_left; (go_simp <;> with_reducible rfl); clear hK K; simp only [Act.put, List.setIfInBounds_toArray, List.set_cons_zero, List.set_cons_succ]
  refine plan_load rfl (fun K hK => quiet_runK (v := ?_) (fun W => ?_) (hK _ ?_)); rotate_left; (go_simp <;> with_reducible rfl); clear hK K; simp only [Act.put, List.setIfInBounds_toArray, List.set_cons_zero, List.set_cons_succ]
  refine plan_pure rfl (fun K hK => quiet_run (v := ?_) (fun W _ => ?_) (hK _ ?_)); rotate_left; (go_simp <;> with_reducible rfl); clear hK K; simp only [Act.put, List.setIfInBounds_toArray, List.set_cons_zero, List.set_cons_succ]
  refine plan_load rfl (fun K hK => quiet_runK (v := ?_) (fun W => ?_) (hK _ ?_)); rotate_left; (go_simp <;> with_reducible rfl); clear hK K; simp only [Act.put, List.setIfInBounds_toArray, List.set_cons_zero, List.set_cons_succ]
  refine plan_pure rfl (fun K hK => quiet_run (v := ?_) (fun W _ => ?_) (hK _ ?_)); rotate_left; (go_simp <;> with_reducible rfl); clear hK K; simp only [Act.put, List.setIfInBounds_toArray, List.set_cons_zero, List.set_cons_succ]
  refine plan_pure rfl (fun K hK => quiet_move' _ rfl (hK _ ?_)); clear hK K; simp only [Act.put, Act.eval, Array.getD_eq_getD_getElem?, List.getElem?_toArray, List.getElem?_cons_zero, Option.getD_some, List.setIfInBounds_toArray, List.set_cons_zero, List.set_cons_succ]
  refine plan_pure rfl (fun K hK => quiet_run (v := ?_) (fun W _ => ?_) (hK _ ?_)); rotate_left; (go_simp <;> with_reducible rfl); clear hK K; simp only [Act.put, List.setIfInBounds_toArray, List.set_cons_zero, List.set_cons_succ]
  refine plan_load rfl (fun K hK => quiet_runK (v := ?_) (fun W => ?_) (hK _ ?_)); rotate_left; (go_simp <;> with_reducible rfl); clear hK K; simp only [Act.put, List.setIfInBounds_toArray, List.set_cons_zero, List.set_cons_succ]
  refine plan_pure rfl (fun K hK => quiet_run (v := ?_) (fun W _ => ?_) (hK _ ?_)); rotate_left; (go_simp <;> with_reducible rfl); clear hK K; simp only [Act.put, List.setIfInBounds_toArray, List.set_cons_zero, List.set_cons_succ]
  refine plan_does rfl (fun K hK => ?_)
  go_wp2_with fail
  refine (clear_x (N := fun k => N k ∨ k = w.heap.size + 1 + 1) _ b rm rl its ((HR.out.grow (w' := w0.drew) (Ext.keeps HE.out.drew) HNB.out (fun k hk => by
    rcases hk with hk | hk
    · exact .inl hk
    · exact .inr (by omega))))).mono ?_
  rintro e w3 ⟨rfl, hr3, hk3⟩
  have hk03 : Keeps (OneB b) w0 w3 := ((Keeps.refl _ _).drew).trans hk3
  have HR3 := Lib.hid hr3
  have hk03' : Keeps (TwoB b (w.heap.size + 1 + 1)) w0 w3 := hk03.mono (fun _ _ h => .inl h)
  have HK3 := Lib.hid hk03
  have B3 := Lib.hid (BR.out.keeps hk03 (fun h2 => by unfold OneB at h2; omega))
  obtain ⟨d2, y2⟩ := B3.out.reads
  have l32 := B3.out.lt
  refine hK _ _ ⟨ClsK.of (by assumption), ?_⟩; clear hK K; try simp only [Act.put, List.setIfInBounds_toArray, List.set_cons_zero, List.set_cons_succ]
  refine plan_pure rfl (fun K hK => quiet_run (v := ?_) (fun W _ => ?_) (hK _ ?_)); rotate_left; (go_simp <;> with_reducible rfl); clear hK K; simp only [Act.put, List.setIfInBounds_toArray, List.set_cons_zero, List.set_cons_succ]
  refine plan_does rfl (fun K hK => ?_)
  go_wp2_with fail
  refine ⟨ClsK.of (by repeat (first | assumption | exact Keeps.refl _ _ | refine Keeps.setOne ?_ _ _ | refine Keeps.setCell ?_ _ _ (.inl (by first | rfl | exact .inl rfl | exact .inr rfl | omega)) | refine Keeps.drew ?_)), ?_⟩; try simp only [Act.put]
  refine plan_pure rfl (fun K hK => quiet_assign' _ rfl (hK _ ?_)); clear hK K; simp only [Act.put, Act.eval, Array.getD_eq_getD_getElem?, List.getElem?_toArray, List.getElem?_cons_zero, List.getElem?_cons_succ, Option.getD_some, List.setIfInBounds_toArray, List.set_cons_zero, List.set_cons_succ]
  refine plan_nil ?_; simp only [tailL, List.filterMap_nil]
  go_wp2_with fail
  have r1 := (((B3.out.set 0 (.int .i64 (rm : Int))).set 1 (.slice none 0 0)).set 2 (.int .i64 (rl : Int))).reads.1
  dsimp only [List.set_cons_zero, List.set_cons_succ] at r1
  clear c0 c2' z0 z2 d2 y2
  refine bodyPost_ret (v := .tuple #[.agg #[.int .i64 (rm : Int), .slice none 0 0, .int .i64 (rl : Int)], .bool true]) (by simp [results, Try.results20, go_sem, r1]) rfl ?_
  have hfin : Keeps (OneB (w.heap.size + 1 + 1)) w3 (((w3.setCell ⟨w.heap.size + 1 + 1, 0, none⟩ (.int .i64 (rm : Int))).setCell ⟨w.heap.size + 1 + 1, 1, none⟩ (.slice none 0 0)).setCell ⟨w.heap.size + 1 + 1, 2, none⟩ (.int .i64 (rl : Int))) :=
    (((Keeps.refl _ w3).setOne _ _).setOne _ _).setOne _ _
  have h0f : Keeps (TwoB b (w.heap.size + 1 + 1)) w0 _ := (HK3.out.mono (T := TwoB b (w.heap.size + 1 + 1)) (fun k _ h => .inl h)).trans (hfin.mono (fun k _ h => .inr h))
  have hact : AR.act ⟨rm, rl, its⟩ ⟨what, ⟨xs, xk, xb⟩⟩ = ⟨rm, rl, []⟩ := by unfold AR.act; rw [if_neg H0.out, if_neg H1.out]
  refine ⟨_, rfl, ?_, ?_, ?_⟩
  · rw [hact]
    exact ⟨fun _ => False, ⟨_, rfl, SlV.nil⟩, fun k hk => hk.elim⟩
  · rw [hact]
    exact (HR3.out.keeps hfin (fun k h => .inr h) (by unfold OneB; omega)).less (fun k hk => .inl hk)
  · exact (Ext.keeps HE.out : Keeps (OneB b) w w0).then h0f (fun i hi h2 => by
      rcases h2 with h2 | h2
      · exact h2
      · omega)

/-- a call by both, whatever it is -/
theorem act_any {M N B : Nat → Prop} (w : World) (b : Nat) (R : AR) (vw vx : Value) (x : Ac) (hr : RingX w N b R) (hw : RefX w M vw R) (hv : ActV w B vx x) (hM : ∀ k, M k → k < w.heap.size) (hN : ∀ k, N k → k < w.heap.size) (hMb : M b) (hNb : ¬ N b) (hB : ∀ k, B k → k < w.heap.size)
    (hl : R.items.length ≤ 1000) (hm : R.most ≤ 1000) (hlost : R.lost ≤ 1000000) (hx : x.item.bytes.length ≤ 1000000) :
    Calls Try.prog 20 #[.pointer (some ⟨b, 0, none⟩), vw, vx] w (ActPost w M N b R x) := by
  obtain ⟨bv, rfl, hb⟩ := hv
  obtain ⟨what, it⟩ := x
  by_cases h0 : what = 0
  · subst h0
    exact act_put w b R vw bv it hr hw hb hM hN hMb hNb hB hl hm hlost hx
  by_cases h1 : what = 1
  · subst h1
    exact act_take w b R vw bv it hr hw hb hM hN hMb hNb hl
  · exact act_clear w b R vw bv what it hr hw hb hM hN hMb hNb hl h0 h1
end Go.Proofs.Ytocjnieehogcbaa
