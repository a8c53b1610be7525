/- The net statements' call by both, the program and the document: Take, Drop, Down. They tell the same, and stand alike behind it. Conditions: the net lies as 'NetX' says, the document's as 'RefX' says. -/
import Derived.Test.YtdiogipdcpiffaaNActB
set_option linter.unusedVariables false
set_option maxHeartbeats 400000
set_option maxRecDepth 10000
namespace Go.Proofs.Ytdiogipdcpiffaa
open Go.RowKit

set_option maxHeartbeats 8000000 in
theorem act_take {F M B : Nat → Prop} (w : World) (b : Nat) (N : NA) (vw bv : Value) (x : Ac) (k : Nat) (hn : NetX w F M b N) (hr : RefX w M vw N) (hb : Bytes w B bv x.bytes) (hx : x.ok) (hxl : x.bytes.length ≤ 200) (hbd : NB N k) (hk : k ≤ 1000) (hw : x.what = 2) :
    Calls Try.prog 18 #[.pointer (some ⟨b, 0, none⟩), vw, .agg #[.int .i64 x.what, .int .i64 x.src, .int .i64 x.dst, .int .i64 x.pick, bv, .bool x.is]] w (ActPost w F M b N x) := by
  obtain ⟨a, c, a', c', rfl⟩ := hr.len
  obtain ⟨a2, c2, rfl⟩ := hb.len
  obtain ⟨xw, xs, xd, xp, xb, xi⟩ := x
  dsimp only at hw hx hxl hb ⊢
  have HN := Lib.hid hn
  have HR := Lib.hid hr
  have HV := Lib.hid hb
  have HX := Lib.hid hx
  have HBD := Lib.hid hbd
  have HMw : Hid (∀ k, M k → k < w.heap.size) := Lib.hid hn.below
  have hbw := hn.lt
  clear hn hr hb hx hbd
  subst hw
  obtain ⟨r, hput⟩ : ∃ r, N.takeR xs xd xp = r := ⟨_, rfl⟩
  obtain ⟨N', y, e⟩ := r
  have hact : N.act ⟨2, xs, xd, xp, xb, xi⟩ = N' := by
    show (N.takeR xs xd xp).1 = N'
    rw [hput]
  have HPUT := Lib.hid hput
  unfold ActPost
  rw [hact]
  clear hput hact
  go_enter Try.func18, Try.ntmps18
  go_wp2_with fail
  have bx0 := (((Box.new w 41 [.int .i64 (N.ends : Int), .int .i64 (N.most : Int), .int .i64 (N.came : Int), .slice a N.l.length c, .slice a' N.downs.length c']).alloc (Obj.cells #[.int .i64 2, .int .i64 xs, .int .i64 xd, .int .i64 xp, .slice a2 xb.length c2, .bool xi] 36)).alloc (Obj.cells #[.int .i64 0, .int .i64 0, .int .i64 0, .slice none 0 0, .slice none 0 0] 41))
  have bx1 := ((Box.new (w.alloc (Obj.cells #[.int .i64 (N.ends : Int), .int .i64 (N.most : Int), .int .i64 (N.came : Int), .slice a N.l.length c, .slice a' N.downs.length c'] 41)) 36 [.int .i64 2, .int .i64 xs, .int .i64 xd, .int .i64 xp, .slice a2 xb.length c2, .bool xi]).alloc (Obj.cells #[.int .i64 0, .int .i64 0, .int .i64 0, .slice none 0 0, .slice none 0 0] 41))
  have bx2 := (Box.new ((w.alloc (Obj.cells #[.int .i64 (N.ends : Int), .int .i64 (N.most : Int), .int .i64 (N.came : Int), .slice a N.l.length c, .slice a' N.downs.length c'] 41)).alloc (Obj.cells #[.int .i64 2, .int .i64 xs, .int .i64 xd, .int .i64 xp, .slice a2 xb.length c2, .bool xi] 36)) 41 [.int .i64 0, .int .i64 0, .int .i64 0, .slice none 0 0, .slice none 0 0])
  have ex : Ext w (((w.alloc (Obj.cells #[.int .i64 (N.ends : Int), .int .i64 (N.most : Int), .int .i64 (N.came : Int), .slice a N.l.length c, .slice a' N.downs.length c'] 41)).alloc (Obj.cells #[.int .i64 2, .int .i64 xs, .int .i64 xd, .int .i64 xp, .slice a2 xb.length c2, .bool xi] 36)).alloc (Obj.cells #[.int .i64 0, .int .i64 0, .int .i64 0, .slice none 0 0, .slice none 0 0] 41)) := ((((Keeps.refl NoB w).alloc _).alloc _).alloc _)
  have sx : (((w.alloc (Obj.cells #[.int .i64 (N.ends : Int), .int .i64 (N.most : Int), .int .i64 (N.came : Int), .slice a N.l.length c, .slice a' N.downs.length c'] 41)).alloc (Obj.cells #[.int .i64 2, .int .i64 xs, .int .i64 xd, .int .i64 xp, .slice a2 xb.length c2, .bool xi] 36)).alloc (Obj.cells #[.int .i64 0, .int .i64 0, .int .i64 0, .slice none 0 0, .slice none 0 0] 41)).heap.size = w.heap.size + 3 := by simp
  simp only [World.size_alloc] at bx1 bx2
  generalize (((w.alloc (Obj.cells #[.int .i64 (N.ends : Int), .int .i64 (N.most : Int), .int .i64 (N.came : Int), .slice a N.l.length c, .slice a' N.downs.length c'] 41)).alloc (Obj.cells #[.int .i64 2, .int .i64 xs, .int .i64 xd, .int .i64 xp, .slice a2 xb.length c2, .bool xi] 36)).alloc (Obj.cells #[.int .i64 0, .int .i64 0, .int .i64 0, .slice none 0 0, .slice none 0 0] 41)) = w0 at bx0 bx1 bx2 ex sx ⊢
  have Sx := Lib.hid sx
  clear sx
  have hs0 := bx2.lt
  have HR0 : Hid (RefX w0 (fun k => M k ∨ k = w.heap.size + 1 + 1) _ N) := Lib.hid (HR.out.more ex (fun k hk => hk.imp id (fun h => by omega)))
  have HN0 : Hid (NetX w0 F (fun k => M k ∨ k = w.heap.size + 1 + 1) b N) := Lib.hid (HN.out.more ex (fun k hk => .inl hk) (fun k hk => hk.imp id (fun h => by omega)))
  have HM0 : Hid (∀ k, M k ∨ k = w.heap.size + 1 + 1 → k < w0.heap.size) := Lib.hid (fun k hk => hk.elim (fun h => by have := HMw.out k h; omega) (fun h => by omega))
  have B0 := Lib.hid bx0
  have B1 := Lib.hid bx1
  have B2 := Lib.hid bx2
  have HE := Lib.hid ex
  clear ex bx0 bx1 bx2
  obtain ⟨cB0, zB0⟩ := B0.out.reads
  have lB0 := B0.out.lt
  obtain ⟨cB1, zB1⟩ := B1.out.reads
  have lB1 := B1.out.lt
  obtain ⟨cB2, zB2⟩ := B2.out.reads
  have lB2 := B2.out.lt
  go_wp2_with fail
  refine (rtakeX (M := fun k => M k ∨ k = w.heap.size + 1 + 1) w0 _ N xs xd xp HR0.out HM0.out HX.out.2.2 HBD.out hk N' y e e HPUT.out rfl).mono ?_
  rintro r w1 ⟨v', vx, rfl, hx1, hy1, hE1⟩
  obtain ⟨a1, d1, a1', d1', rfl⟩ := hx1.len
  obtain ⟨ay, ny, rfl, hyb⟩ := hy1.form
  have HX1 := Lib.hid hx1
  have HY1 := Lib.hid hy1
  clear cB0 zB0 lB0 cB1 zB1 lB1 cB2 zB2 lB2
  have h01 := hE1.size
  replace HE := Lib.hid (HE.out.ext hE1)
  replace B0 := Lib.hid (B0.out.ext hE1)
  replace B1 := Lib.hid (B1.out.ext hE1)
  replace B2 := Lib.hid (B2.out.ext hE1)
  replace HN0 := Lib.hid (HN0.out.ext hE1)
  clear hyb hx1 hy1 hE1 HR0
  obtain ⟨cB0, zB0⟩ := B0.out.reads
  have lB0 := B0.out.lt
  obtain ⟨cB1, zB1⟩ := B1.out.reads
  have lB1 := B1.out.lt
  obtain ⟨cB2, zB2⟩ := B2.out.reads
  have lB2 := B2.out.lt
  go_wp2_with fail
  clear cB0 zB0 lB0 cB1 zB1 lB1 cB2 zB2 lB2
  have bp0 := ((Box.new w1 41 [.int .i64 (N'.ends : Int), .int .i64 (N'.most : Int), .int .i64 (N'.came : Int), .slice a1 N'.l.length d1, .slice a1' N'.downs.length d1']).alloc (Obj.cells #[.int .i64 (y.num : Int), .int .i64 y.src, .int .i64 y.dst, .slice ay y.bytes.length ny] 50))
  have bp1 := (Box.new (w1.alloc (Obj.cells #[.int .i64 (N'.ends : Int), .int .i64 (N'.most : Int), .int .i64 (N'.came : Int), .slice a1 N'.l.length d1, .slice a1' N'.downs.length d1'] 41)) 50 [.int .i64 (y.num : Int), .int .i64 y.src, .int .i64 y.dst, .slice ay y.bytes.length ny])
  have ep : Ext w1 ((w1.alloc (Obj.cells #[.int .i64 (N'.ends : Int), .int .i64 (N'.most : Int), .int .i64 (N'.came : Int), .slice a1 N'.l.length d1, .slice a1' N'.downs.length d1'] 41)).alloc (Obj.cells #[.int .i64 (y.num : Int), .int .i64 y.src, .int .i64 y.dst, .slice ay y.bytes.length ny] 50)) := (((Keeps.refl NoB w1).alloc _).alloc _)
  have sp : ((w1.alloc (Obj.cells #[.int .i64 (N'.ends : Int), .int .i64 (N'.most : Int), .int .i64 (N'.came : Int), .slice a1 N'.l.length d1, .slice a1' N'.downs.length d1'] 41)).alloc (Obj.cells #[.int .i64 (y.num : Int), .int .i64 y.src, .int .i64 y.dst, .slice ay y.bytes.length ny] 50)).heap.size = w1.heap.size + 2 := by simp
  simp only [World.size_alloc] at bp1
  generalize ((w1.alloc (Obj.cells #[.int .i64 (N'.ends : Int), .int .i64 (N'.most : Int), .int .i64 (N'.came : Int), .slice a1 N'.l.length d1, .slice a1' N'.downs.length d1'] 41)).alloc (Obj.cells #[.int .i64 (y.num : Int), .int .i64 y.src, .int .i64 y.dst, .slice ay y.bytes.length ny] 50)) = w2 at bp0 bp1 ep sp ⊢
  have Sp := Lib.hid sp
  clear sp
  have D0 := Lib.hid bp0
  have D1 := Lib.hid bp1
  have h12 := bp1.lt
  replace HE := Lib.hid (HE.out.ext ep)
  replace B0 := Lib.hid (B0.out.ext ep)
  replace B1 := Lib.hid (B1.out.ext ep)
  replace B2 := Lib.hid (B2.out.ext ep)
  replace HN0 := Lib.hid (HN0.out.ext ep)
  replace HX1 := Lib.hid (HX1.out.ext ep)
  replace HY1 := Lib.hid (HY1.out.ext ep)
  clear ep bp0 bp1
  refine (take_any w2 b N xs xd xp HN0.out HX.out.2.2 N' y e e HPUT.out rfl).mono ?_
  rintro r w3 ⟨F', M', bz, rfl, hz, hn3, hs3⟩
  obtain ⟨az, nz, rfl⟩ := hz.len
  have HFw : Hid (∀ k, F k → k < w.heap.size) := Lib.hid (fun k hk => HMw.out k (HN.out.FM k hk))
  have hsz := HE.out.size
  have HN3 := Lib.hid hn3
  have HS3 := Lib.hid hs3
  have HZ := Lib.hid hz
  have h23 := hs3.keeps.size
  replace B2 := Lib.hid (B2.out.keeps hs3.keeps (fun h => by have := HFw.out _ h; omega))
  replace D0 := Lib.hid (D0.out.keeps hs3.keeps (fun h => by have := HFw.out _ h; omega))
  replace D1 := Lib.hid (D1.out.keeps hs3.keeps (fun h => by have := HFw.out _ h; omega))
  have HX3 : Hid (RefX w3 M' _ N') := Lib.hid (HX1.out.go hs3.keeps (fun k hk h => .inl (HN.out.FM k h)) (fun k hk => hs3.inM k hk))
  have HY3 := Lib.hid (HY1.out.keeps hs3.keeps (fun k hk h => hk.2 (.inl (HN.out.FM k h))))
  clear hz hn3 hs3 B0 B1 HX1 HY1
  obtain ⟨cB2, zB2⟩ := B2.out.reads
  have lB2 := B2.out.lt
  obtain ⟨cD0, zD0⟩ := D0.out.reads
  have lD0 := D0.out.lt
  obtain ⟨cD1, zD1⟩ := D1.out.reads
  have lD1 := D1.out.lt
  go_wp2_with fail
  clear cB2 zB2 lB2 cD0 zD0 lD0 cD1 zD1 lD1
  have bq0 := (Box.new w3 50 [.int .i64 (y.num : Int), .int .i64 y.src, .int .i64 y.dst, .slice az y.bytes.length nz])
  have eq : Ext w3 (w3.alloc (Obj.cells #[.int .i64 (y.num : Int), .int .i64 y.src, .int .i64 y.dst, .slice az y.bytes.length nz] 50)) := ((Keeps.refl NoB w3).alloc _)
  have sq : (w3.alloc (Obj.cells #[.int .i64 (y.num : Int), .int .i64 y.src, .int .i64 y.dst, .slice az y.bytes.length nz] 50)).heap.size = w3.heap.size + 1 := by simp
  generalize (w3.alloc (Obj.cells #[.int .i64 (y.num : Int), .int .i64 y.src, .int .i64 y.dst, .slice az y.bytes.length nz] 50)) = w4 at bq0 eq sq ⊢
  have Sq := Lib.hid sq
  clear sq
  have D2 := Lib.hid bq0
  have h34 := bq0.lt
  have HE4 := Lib.hid eq
  replace B2 := Lib.hid (B2.out.ext eq)
  replace D0 := Lib.hid (D0.out.ext eq)
  replace D1 := Lib.hid (D1.out.ext eq)
  replace HN3 := Lib.hid (HN3.out.ext eq)
  replace HX3 := Lib.hid (HX3.out.ext eq)
  replace HY3 := Lib.hid (HY3.out.ext eq)
  replace HZ := Lib.hid (HZ.out.ext eq)
  clear eq bq0
  have hne : ¬ w1.heap.size = w.heap.size + 1 + 1 := by omega
  have hne1 : ¬ w1.heap.size + 1 = w.heap.size + 1 + 1 := by omega
  have hne2 : ¬ w3.heap.size = w.heap.size + 1 + 1 := by omega
  obtain ⟨cB2, zB2⟩ := B2.out.reads
  have lB2 := B2.out.lt
  obtain ⟨cD0, zD0⟩ := D0.out.reads
  have lD0 := D0.out.lt
  obtain ⟨cD1, zD1⟩ := D1.out.reads
  have lD1 := D1.out.lt
  obtain ⟨cD2, zD2⟩ := D2.out.reads
  have lD2 := D2.out.lt
  have hE0 : Keeps (OneB (w.heap.size + 1 + 1)) w4 w4.drew := (Keeps.refl _ _).drew
  refine wp_region_plan [(1, 0), (3, 1), (3, 2), (2, 3), (0, 4), (0, 5), (0, 7), (2, 6), (0, 8), (0, 9)] [0] [3, 6, 10, 11] [10, 11] (ClsK (OneB (w.heap.size + 1 + 1)) w4) (by kernel_rfl) (by kernel_rfl) (by kernel_rfl) rfl rfl (ClsK.of hE0) (fun _ _ _ d _ h => by cases d <;> exact h) ?_; simp only [planL, List.getElem?_toArray, List.getElem?_cons_succ, List.getElem?_cons_zero]
  refine plan_load rfl (fun K hK => quiet_runK (v := ?_) (fun W => ?_) (hK _ ?_)); rotate_left; (go_simp <;> with_reducible rfl); clear hK K; simp only [Act.put, List.setIfInBounds_toArray, List.set_cons_zero, List.set_cons_succ]
  refine plan_exact rfl (fun K hK => quiet_runX (v := ?_) ?_ (hK _ ?_)); rotate_left; (go_simp <;> with_reducible rfl); clear hK K; simp only [Act.put, List.setIfInBounds_toArray, List.set_cons_zero, List.set_cons_succ]
  refine plan_exact rfl (fun K hK => quiet_runX (v := ?_) ?_ (hK _ ?_)); rotate_left; (go_simp <;> with_reducible rfl); clear hK K; simp only [Act.put, List.setIfInBounds_toArray, List.set_cons_zero, List.set_cons_succ]
  refine plan_does rfl (fun K hK => ?_)
  go_wp2_with fail
  have hp1 : ParV w4.drew _ _ y := ParV.ext HY3.out (Ext.drew0 _)
  have hp2 : ParV w4.drew _ _ y := ⟨_, rfl, Bytes.ext HZ.out (Ext.drew0 _)⟩
  refine (same_par w4.drew y y _ _ hp1 hp2).mono ?_
  rintro r w5 ⟨rfl, hE5⟩
  rw [sameP_self]
  have hE5' := hE0.ext hE5
  clear hp1 hp2
  refine hK _ _ ⟨ClsK.of (by assumption), ?_⟩; clear hK K; try simp only [Act.put, List.setIfInBounds_toArray, List.set_cons_zero, List.set_cons_succ]
  refine plan_pure rfl (fun K hK => quiet_move' _ rfl (hK _ ?_)); clear hK K; simp only [Act.put, Act.eval, Array.getD_eq_getD_getElem?, List.getElem?_toArray, List.getElem?_cons_zero, List.getElem?_cons_succ, Option.getD_some, List.setIfInBounds_toArray, List.set_cons_zero, List.set_cons_succ]
  first
  | (refine plan_skip rfl ?_; simp only [Act.put, List.setIfInBounds_toArray, List.set_cons_zero, List.set_cons_succ])
  | (refine plan_pure rfl (fun K hK => quiet_move' _ rfl (hK _ ?_)); clear hK K; simp only [Act.put, Act.eval, Array.getD_eq_getD_getElem?, List.getElem?_toArray, List.getElem?_cons_zero, List.getElem?_cons_succ, Option.getD_some, List.setIfInBounds_toArray, List.set_cons_zero, List.set_cons_succ])
  first
  | (refine plan_skip rfl ?_; simp only [Act.put, List.setIfInBounds_toArray, List.set_cons_zero, List.set_cons_succ])
  | (refine plan_pure rfl (fun K hK => quiet_move' _ rfl (hK _ ?_)); clear hK K; simp only [Act.put, Act.eval, Array.getD_eq_getD_getElem?, List.getElem?_toArray, List.getElem?_cons_zero, List.getElem?_cons_succ, Option.getD_some, List.setIfInBounds_toArray, List.set_cons_zero, List.set_cons_succ])
  first
  | (refine plan_skip rfl ?_; simp only [Act.put, List.setIfInBounds_toArray, List.set_cons_zero, List.set_cons_succ])
  | (refine plan_does rfl (fun K hK => ?_))
  go_wp2_with fail
  refine (num_any _ _).mono ?_
  rintro r w6 ⟨rfl, rfl⟩
  refine hK _ _ ⟨ClsK.of (by assumption), ?_⟩; clear hK K; try simp only [Act.put, List.setIfInBounds_toArray, List.set_cons_zero, List.set_cons_succ]
  first
  | (refine plan_skip rfl ?_; simp only [Act.put, List.setIfInBounds_toArray, List.set_cons_zero, List.set_cons_succ])
  | (refine plan_pure rfl (fun K hK => quiet_run (v := ?_) (fun W _ => ?_) (hK _ ?_)); rotate_left; (go_simp <;> with_reducible rfl); clear hK K; simp only [Act.put, List.setIfInBounds_toArray, List.set_cons_zero, List.set_cons_succ])
  refine plan_pure rfl (fun K hK => quiet_run (v := ?_) (fun W _ => ?_) (hK _ ?_)); rotate_left; (go_simp <;> with_reducible rfl); clear hK K; simp only [Act.put, List.setIfInBounds_toArray, List.set_cons_zero, List.set_cons_succ]
  refine plan_nil ?_; simp only [tailL, List.filterMap_cons, List.filterMap_nil, List.getElem?_toArray, List.getElem?_cons_succ, List.getElem?_cons_zero]; change wpList _ _ _ (_ :: _ :: []) _ _
  have hE45 : Ext w4 w5 := (Ext.drew0 w4).ext hE5
  have h45 := hE45.size
  clear cB2 zB2 lB2 cD0 zD0 lD0 cD1 zD1 lD1 cD2 zD2 lD2
  replace B2 := Lib.hid (B2.out.ext hE45)
  replace D0 := Lib.hid (D0.out.ext hE45)
  replace HN3 := Lib.hid (HN3.out.ext hE45)
  replace HX3 := Lib.hid (HX3.out.ext hE45)
  have HE45 := Lib.hid hE45
  clear hE45 hE5 hE5'
  obtain ⟨cB2, zB2⟩ := B2.out.reads
  have lB2 := B2.out.lt
  obtain ⟨cD0, zD0⟩ := D0.out.reads
  have lD0 := D0.out.lt
  go_wp2_with fail
  clear cB2 zB2 lB2 cD0 zD0 lD0
  have q1 := ((((((B2.out.set 0 (.int .i64 (NA.ends N' : Int))).set 1 (.int .i64 (NA.most N' : Int))).set 2 (.int .i64 (NA.came N' : Int))).set 3 (.slice a1 N'.l.length d1))).set 4 (.slice a1' N'.downs.length d1'))
  dsimp only [List.set_cons_zero, List.set_cons_succ] at q1
  have hk : Keeps (OneB (w.heap.size + 1 + 1)) w5 (((((w5.setCell ⟨(w.heap.size + 1 + 1), 0, none⟩ (.int .i64 (NA.ends N' : Int))).setCell ⟨(w.heap.size + 1 + 1), 1, none⟩ (.int .i64 (NA.most N' : Int))).setCell ⟨(w.heap.size + 1 + 1), 2, none⟩ (.int .i64 (NA.came N' : Int))).setCell ⟨(w.heap.size + 1 + 1), 3, none⟩ (.slice a1 N'.l.length d1)).setCell ⟨(w.heap.size + 1 + 1), 4, none⟩ (.slice a1' N'.downs.length d1')) :=
    (((((Keeps.refl _ _).setOne _ _).setOne _ _).setOne _ _).setOne _ _).setOne _ _
  have q2 := q1.reads.1
  generalize (((((w5.setCell ⟨(w.heap.size + 1 + 1), 0, none⟩ (.int .i64 (NA.ends N' : Int))).setCell ⟨(w.heap.size + 1 + 1), 1, none⟩ (.int .i64 (NA.most N' : Int))).setCell ⟨(w.heap.size + 1 + 1), 2, none⟩ (.int .i64 (NA.came N' : Int))).setCell ⟨(w.heap.size + 1 + 1), 3, none⟩ (.slice a1 N'.l.length d1)).setCell ⟨(w.heap.size + 1 + 1), 4, none⟩ (.slice a1' N'.downs.length d1')) = w9 at q1 q2 hk ⊢
  have hks := hk.size
  refine bodyPost_ret (v := .tuple #[.agg #[.int .i64 (N'.ends : Int), .int .i64 (N'.most : Int), .int .i64 (N'.came : Int), .slice a1 N'.l.length d1, .slice a1' N'.downs.length d1'], .bool true]) (by simp [results, Try.results18, go_sem, q2]) rfl ?_
  refine ⟨F', M', _, rfl, ?_, ?_, ?_⟩
  · refine HN3.out.keeps hk (fun k hk h => ?_) (fun k hk h => HS3.out.sub k (.inr h))
    rcases HS3.out.inF k hk with h1 | h1
    · have := HFw.out k h1; unfold OneB at h; omega
    · unfold OneB at h; omega
  · exact HX3.out.go hk (fun k hk h => HS3.out.sub k (.inr h)) (fun k hk => .inl hk)
  · refine ⟨?_, fun k hk => (HS3.out.inF k hk).imp id (fun h => by omega), fun k hk => ?_, fun k hk => HS3.out.sub k (.inl hk)⟩
    · exact (((Ext.keeps HE.out).then HS3.out.keeps (fun i hi h => h)).ext (HE4.out.ext HE45.out)).then hk (fun i hi h => by unfold OneB at h; omega)
    · rcases HS3.out.inM k hk with (h1 | h1) | h1
      · exact .inl h1
      · exact .inr (by omega)
      · exact .inr (by omega)
end Go.Proofs.Ytdiogipdcpiffaa
