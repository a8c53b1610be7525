/- The net statements' call by both, the program and the document: Drop. They tell the same, and stand alike behind it. Conditions: the net lies as 'NetX' says, the document's as 'RefX' says. -/
import Derived.Test.YtdiogipdcpiffaaNActC
set_option linter.unusedVariables false
set_option maxHeartbeats 400000
set_option maxRecDepth 10000
namespace Go.Proofs.Ytdiogipdcpiffaa
open Go.RowKit

set_option maxHeartbeats 8000000 in
theorem act_drop {F M B : Nat → Prop} (w : World) (b : Nat) (N : NA) (vw bv : Value) (x : Ac) (k : Nat) (hn : NetX w F M b N) (hr : RefX w M vw N) (hb : Bytes w B bv x.bytes) (hx : x.ok) (hxl : x.bytes.length ≤ 200) (hbd : NB N k) (hk : k ≤ 1000) (hw : x.what = 3) :
    Calls Try.prog 18 #[.pointer (some ⟨b, 0, none⟩), vw, .agg #[.int .i64 x.what, .int .i64 x.src, .int .i64 x.dst, .int .i64 x.pick, bv, .bool x.is]] w (ActPost w F M b N x) := by
  obtain ⟨a, c, a', c', rfl⟩ := hr.len
  obtain ⟨a2, c2, rfl⟩ := hb.len
  obtain ⟨xw, xs, xd, xp, xb, xi⟩ := x
  dsimp only at hw hx hxl hb ⊢
  have HN := Lib.hid hn
  have HR := Lib.hid hr
  have HV := Lib.hid hb
  have HX := Lib.hid hx
  have HBD := Lib.hid hbd
  have HMw : Hid (∀ k, M k → k < w.heap.size) := Lib.hid hn.below
  have hbw := hn.lt
  clear hn hr hb hx hbd
  subst hw
  obtain ⟨r, hput⟩ : ∃ r, N.dropR xs xd xp = r := ⟨_, rfl⟩
  obtain ⟨N', j, e⟩ := r
  have hact : N.act ⟨3, xs, xd, xp, xb, xi⟩ = N' := by
    show (N.dropR xs xd xp).1 = N'
    rw [hput]
  have HPUT := Lib.hid hput
  unfold ActPost
  rw [hact]
  clear hput hact
  go_enter Try.func18, Try.ntmps18
  go_wp2_with fail
  have bx0 := (((Box.new w 41 [.int .i64 (N.ends : Int), .int .i64 (N.most : Int), .int .i64 (N.came : Int), .slice a N.l.length c, .slice a' N.downs.length c']).alloc (Obj.cells #[.int .i64 3, .int .i64 xs, .int .i64 xd, .int .i64 xp, .slice a2 xb.length c2, .bool xi] 36)).alloc (Obj.cells #[.int .i64 0, .int .i64 0, .int .i64 0, .slice none 0 0, .slice none 0 0] 41))
  have bx1 := ((Box.new (w.alloc (Obj.cells #[.int .i64 (N.ends : Int), .int .i64 (N.most : Int), .int .i64 (N.came : Int), .slice a N.l.length c, .slice a' N.downs.length c'] 41)) 36 [.int .i64 3, .int .i64 xs, .int .i64 xd, .int .i64 xp, .slice a2 xb.length c2, .bool xi]).alloc (Obj.cells #[.int .i64 0, .int .i64 0, .int .i64 0, .slice none 0 0, .slice none 0 0] 41))
  have bx2 := (Box.new ((w.alloc (Obj.cells #[.int .i64 (N.ends : Int), .int .i64 (N.most : Int), .int .i64 (N.came : Int), .slice a N.l.length c, .slice a' N.downs.length c'] 41)).alloc (Obj.cells #[.int .i64 3, .int .i64 xs, .int .i64 xd, .int .i64 xp, .slice a2 xb.length c2, .bool xi] 36)) 41 [.int .i64 0, .int .i64 0, .int .i64 0, .slice none 0 0, .slice none 0 0])
  have ex : Ext w (((w.alloc (Obj.cells #[.int .i64 (N.ends : Int), .int .i64 (N.most : Int), .int .i64 (N.came : Int), .slice a N.l.length c, .slice a' N.downs.length c'] 41)).alloc (Obj.cells #[.int .i64 3, .int .i64 xs, .int .i64 xd, .int .i64 xp, .slice a2 xb.length c2, .bool xi] 36)).alloc (Obj.cells #[.int .i64 0, .int .i64 0, .int .i64 0, .slice none 0 0, .slice none 0 0] 41)) := ((((Keeps.refl NoB w).alloc _).alloc _).alloc _)
  have sx : (((w.alloc (Obj.cells #[.int .i64 (N.ends : Int), .int .i64 (N.most : Int), .int .i64 (N.came : Int), .slice a N.l.length c, .slice a' N.downs.length c'] 41)).alloc (Obj.cells #[.int .i64 3, .int .i64 xs, .int .i64 xd, .int .i64 xp, .slice a2 xb.length c2, .bool xi] 36)).alloc (Obj.cells #[.int .i64 0, .int .i64 0, .int .i64 0, .slice none 0 0, .slice none 0 0] 41)).heap.size = w.heap.size + 3 := by simp
  simp only [World.size_alloc] at bx1 bx2
  generalize (((w.alloc (Obj.cells #[.int .i64 (N.ends : Int), .int .i64 (N.most : Int), .int .i64 (N.came : Int), .slice a N.l.length c, .slice a' N.downs.length c'] 41)).alloc (Obj.cells #[.int .i64 3, .int .i64 xs, .int .i64 xd, .int .i64 xp, .slice a2 xb.length c2, .bool xi] 36)).alloc (Obj.cells #[.int .i64 0, .int .i64 0, .int .i64 0, .slice none 0 0, .slice none 0 0] 41)) = w0 at bx0 bx1 bx2 ex sx ⊢
  have Sx := Lib.hid sx
  clear sx
  have hs0 := bx2.lt
  have HR0 : Hid (RefX w0 (fun k => M k ∨ k = w.heap.size + 1 + 1) _ N) := Lib.hid (HR.out.more ex (fun k hk => hk.imp id (fun h => by omega)))
  have HN0 : Hid (NetX w0 F (fun k => M k ∨ k = w.heap.size + 1 + 1) b N) := Lib.hid (HN.out.more ex (fun k hk => .inl hk) (fun k hk => hk.imp id (fun h => by omega)))
  have HM0 : Hid (∀ k, M k ∨ k = w.heap.size + 1 + 1 → k < w0.heap.size) := Lib.hid (fun k hk => hk.elim (fun h => by have := HMw.out k h; omega) (fun h => by omega))
  have B0 := Lib.hid bx0
  have B1 := Lib.hid bx1
  have B2 := Lib.hid bx2
  have HE := Lib.hid ex
  clear ex bx0 bx1 bx2
  obtain ⟨cB0, zB0⟩ := B0.out.reads
  have lB0 := B0.out.lt
  obtain ⟨cB1, zB1⟩ := B1.out.reads
  have lB1 := B1.out.lt
  obtain ⟨cB2, zB2⟩ := B2.out.reads
  have lB2 := B2.out.lt
  go_wp2_with fail
  refine (rdropX (M := fun k => M k ∨ k = w.heap.size + 1 + 1) w0 _ N xs xd xp HR0.out HM0.out HX.out.2.2 HBD.out hk N' j e j e HPUT.out rfl rfl).mono ?_
  rintro r w1 ⟨v', rfl, hx1, hE1⟩
  obtain ⟨a1, d1, a1', d1', rfl⟩ := hx1.len
  have HX1 := Lib.hid hx1
  clear cB0 zB0 lB0 cB1 zB1 lB1 cB2 zB2 lB2
  have h01 := hE1.size
  replace HE := Lib.hid (HE.out.ext hE1)
  replace B0 := Lib.hid (B0.out.ext hE1)
  replace B1 := Lib.hid (B1.out.ext hE1)
  replace B2 := Lib.hid (B2.out.ext hE1)
  replace HN0 := Lib.hid (HN0.out.ext hE1)
  clear hx1 hE1 HR0
  obtain ⟨cB0, zB0⟩ := B0.out.reads
  have lB0 := B0.out.lt
  obtain ⟨cB1, zB1⟩ := B1.out.reads
  have lB1 := B1.out.lt
  obtain ⟨cB2, zB2⟩ := B2.out.reads
  have lB2 := B2.out.lt
  go_wp2_with fail
  clear cB0 zB0 lB0 cB1 zB1 lB1 cB2 zB2 lB2
  have bp0 := (Box.new w1 41 [.int .i64 (N'.ends : Int), .int .i64 (N'.most : Int), .int .i64 (N'.came : Int), .slice a1 N'.l.length d1, .slice a1' N'.downs.length d1'])
  have ep : Ext w1 (w1.alloc (Obj.cells #[.int .i64 (N'.ends : Int), .int .i64 (N'.most : Int), .int .i64 (N'.came : Int), .slice a1 N'.l.length d1, .slice a1' N'.downs.length d1'] 41)) := ((Keeps.refl NoB w1).alloc _)
  have sp : (w1.alloc (Obj.cells #[.int .i64 (N'.ends : Int), .int .i64 (N'.most : Int), .int .i64 (N'.came : Int), .slice a1 N'.l.length d1, .slice a1' N'.downs.length d1'] 41)).heap.size = w1.heap.size + 1 := by simp
  generalize (w1.alloc (Obj.cells #[.int .i64 (N'.ends : Int), .int .i64 (N'.most : Int), .int .i64 (N'.came : Int), .slice a1 N'.l.length d1, .slice a1' N'.downs.length d1'] 41)) = w2 at bp0 ep sp ⊢
  have Sp := Lib.hid sp
  clear sp
  have D0 := Lib.hid bp0
  have h12 := bp0.lt
  replace HE := Lib.hid (HE.out.ext ep)
  replace B0 := Lib.hid (B0.out.ext ep)
  replace B1 := Lib.hid (B1.out.ext ep)
  replace B2 := Lib.hid (B2.out.ext ep)
  replace HN0 := Lib.hid (HN0.out.ext ep)
  replace HX1 := Lib.hid (HX1.out.ext ep)
  clear ep bp0
  refine (drop_any w2 b N xs xd xp HN0.out HX.out.2.2 N' j e e j HPUT.out rfl rfl).mono ?_
  rintro r w3 ⟨F', M', rfl, hn3, hs3⟩
  have HFw : Hid (∀ k, F k → k < w.heap.size) := Lib.hid (fun k hk => HMw.out k (HN.out.FM k hk))
  have hsz := HE.out.size
  have HN3 := Lib.hid hn3
  have HS3 := Lib.hid hs3
  have h23 := hs3.keeps.size
  replace B2 := Lib.hid (B2.out.keeps hs3.keeps (fun h => by have := HFw.out _ h; omega))
  replace D0 := Lib.hid (D0.out.keeps hs3.keeps (fun h => by have := HFw.out _ h; omega))
  have HX3 : Hid (RefX w3 M' _ N') := Lib.hid (HX1.out.go hs3.keeps (fun k hk h => .inl (HN.out.FM k h)) (fun k hk => hs3.inM k hk))
  clear hn3 hs3 B0 B1 HX1
  have hne : ¬ w1.heap.size = w.heap.size + 1 + 1 := by omega
  obtain ⟨cB2, zB2⟩ := B2.out.reads
  have lB2 := B2.out.lt
  obtain ⟨cD0, zD0⟩ := D0.out.reads
  have lD0 := D0.out.lt
  go_wp2_with fail
  have hE0 : Keeps (OneB (w.heap.size + 1 + 1)) w3 w3.drew := (Keeps.refl _ _).drew
  refine wp_region_plan [(1, 0), (0, 1), (0, 2), (0, 3), (0, 4), (0, 5), (0, 7), (2, 6), (0, 8), (0, 9)] [0] [6, 10, 11] [10, 11] (ClsK (OneB (w.heap.size + 1 + 1)) w3) (by kernel_rfl) (by kernel_rfl) (by kernel_rfl) rfl rfl (ClsK.of hE0) (fun _ _ _ d _ h => by cases d <;> exact h) ?_; simp only [planL, List.getElem?_toArray, List.getElem?_cons_succ, List.getElem?_cons_zero]
  refine plan_load rfl (fun K hK => quiet_runK (v := ?_) (fun W => ?_) (hK _ ?_)); rotate_left; (go_simp <;> with_reducible rfl); clear hK K; simp only [Act.put, List.setIfInBounds_toArray, List.set_cons_zero, List.set_cons_succ]
  refine plan_pure rfl (fun K hK => quiet_move' _ rfl (hK _ ?_)); clear hK K; simp only [Act.put, Act.eval, Array.getD_eq_getD_getElem?, List.getElem?_toArray, List.getElem?_cons_zero, List.getElem?_cons_succ, Option.getD_some, List.setIfInBounds_toArray, List.set_cons_zero, List.set_cons_succ]
  refine plan_pure rfl (fun K hK => quiet_move' _ rfl (hK _ ?_)); clear hK K; simp only [Act.put, Act.eval, Array.getD_eq_getD_getElem?, List.getElem?_toArray, List.getElem?_cons_zero, List.getElem?_cons_succ, Option.getD_some, List.setIfInBounds_toArray, List.set_cons_zero, List.set_cons_succ]
  refine plan_pure rfl (fun K hK => quiet_run (v := ?_) (fun W _ => ?_) (hK _ ?_)); rotate_left; (go_simp <;> with_reducible rfl); clear hK K; simp only [Act.put, List.setIfInBounds_toArray, List.set_cons_zero, List.set_cons_succ]
  refine plan_pure rfl (fun K hK => quiet_move' _ rfl (hK _ ?_)); clear hK K; simp only [Act.put, Act.eval, Array.getD_eq_getD_getElem?, List.getElem?_toArray, List.getElem?_cons_zero, List.getElem?_cons_succ, Option.getD_some, List.setIfInBounds_toArray, List.set_cons_zero, List.set_cons_succ]
  first
  | (refine plan_skip rfl ?_; simp only [Act.put, List.setIfInBounds_toArray, List.set_cons_zero, List.set_cons_succ])
  | (refine plan_pure rfl (fun K hK => quiet_move' _ rfl (hK _ ?_)); clear hK K; simp only [Act.put, Act.eval, Array.getD_eq_getD_getElem?, List.getElem?_toArray, List.getElem?_cons_zero, List.getElem?_cons_succ, Option.getD_some, List.setIfInBounds_toArray, List.set_cons_zero, List.set_cons_succ])
  first
  | (refine plan_skip rfl ?_; simp only [Act.put, List.setIfInBounds_toArray, List.set_cons_zero, List.set_cons_succ])
  | (refine plan_pure rfl (fun K hK => quiet_move' _ rfl (hK _ ?_)); clear hK K; simp only [Act.put, Act.eval, Array.getD_eq_getD_getElem?, List.getElem?_toArray, List.getElem?_cons_zero, List.getElem?_cons_succ, Option.getD_some, List.setIfInBounds_toArray, List.set_cons_zero, List.set_cons_succ])
  first
  | (refine plan_skip rfl ?_; simp only [Act.put, List.setIfInBounds_toArray, List.set_cons_zero, List.set_cons_succ])
  | (refine plan_does rfl (fun K hK => ?_))
  go_wp2_with fail
  refine (num_any _ _).mono ?_
  rintro r w6 ⟨rfl, rfl⟩
  refine hK _ _ ⟨ClsK.of (by assumption), ?_⟩; clear hK K; try simp only [Act.put, List.setIfInBounds_toArray, List.set_cons_zero, List.set_cons_succ]
  first
  | (refine plan_skip rfl ?_; simp only [Act.put, List.setIfInBounds_toArray, List.set_cons_zero, List.set_cons_succ])
  | (refine plan_pure rfl (fun K hK => quiet_run (v := ?_) (fun W _ => ?_) (hK _ ?_)); rotate_left; (go_simp <;> with_reducible rfl); clear hK K; simp only [Act.put, List.setIfInBounds_toArray, List.set_cons_zero, List.set_cons_succ])
  refine plan_pure rfl (fun K hK => quiet_run (v := ?_) (fun W _ => ?_) (hK _ ?_)); rotate_left; (go_simp <;> with_reducible rfl); clear hK K; simp only [Act.put, List.setIfInBounds_toArray, List.set_cons_zero, List.set_cons_succ]
  refine plan_nil ?_; simp only [tailL, List.filterMap_cons, List.filterMap_nil, List.getElem?_toArray, List.getElem?_cons_succ, List.getElem?_cons_zero]; change wpList _ _ _ (_ :: _ :: []) _ _
  go_wp2_with fail
  clear cB2 zB2 lB2 cD0 zD0 lD0
  have q1 := ((((((B2.out.set 0 (.int .i64 (NA.ends N' : Int))).set 1 (.int .i64 (NA.most N' : Int))).set 2 (.int .i64 (NA.came N' : Int))).set 3 (.slice a1 N'.l.length d1))).set 4 (.slice a1' N'.downs.length d1'))
  dsimp only [List.set_cons_zero, List.set_cons_succ] at q1
  have hk : Keeps (OneB (w.heap.size + 1 + 1)) w3 (((((w3.setCell ⟨(w.heap.size + 1 + 1), 0, none⟩ (.int .i64 (NA.ends N' : Int))).setCell ⟨(w.heap.size + 1 + 1), 1, none⟩ (.int .i64 (NA.most N' : Int))).setCell ⟨(w.heap.size + 1 + 1), 2, none⟩ (.int .i64 (NA.came N' : Int))).setCell ⟨(w.heap.size + 1 + 1), 3, none⟩ (.slice a1 N'.l.length d1)).setCell ⟨(w.heap.size + 1 + 1), 4, none⟩ (.slice a1' N'.downs.length d1')) :=
    (((((Keeps.refl _ _).setOne _ _).setOne _ _).setOne _ _).setOne _ _).setOne _ _
  have q2 := q1.reads.1
  generalize (((((w3.setCell ⟨(w.heap.size + 1 + 1), 0, none⟩ (.int .i64 (NA.ends N' : Int))).setCell ⟨(w.heap.size + 1 + 1), 1, none⟩ (.int .i64 (NA.most N' : Int))).setCell ⟨(w.heap.size + 1 + 1), 2, none⟩ (.int .i64 (NA.came N' : Int))).setCell ⟨(w.heap.size + 1 + 1), 3, none⟩ (.slice a1 N'.l.length d1)).setCell ⟨(w.heap.size + 1 + 1), 4, none⟩ (.slice a1' N'.downs.length d1')) = w9 at q1 q2 hk ⊢
  have hks := hk.size
  refine bodyPost_ret (v := .tuple #[.agg #[.int .i64 (N'.ends : Int), .int .i64 (N'.most : Int), .int .i64 (N'.came : Int), .slice a1 N'.l.length d1, .slice a1' N'.downs.length d1'], .bool true]) (by simp [results, Try.results18, go_sem, q2]) rfl ?_
  refine ⟨F', M', _, rfl, ?_, ?_, ?_⟩
  · refine (HN3.out.keeps hk (fun k hk h => ?_) (fun k hk h => HS3.out.sub k (.inr h))).ext (Ext.drew0 _)
    rcases HS3.out.inF k hk with h1 | h1
    · have := HFw.out k h1; unfold OneB at h; omega
    · unfold OneB at h; omega
  · exact (HX3.out.go hk (fun k hk h => HS3.out.sub k (.inr h)) (fun k hk => .inl hk)).ext (Ext.drew0 _)
  · refine ⟨?_, fun k hk => (HS3.out.inF k hk).imp id (fun h => by omega), fun k hk => ?_, fun k hk => HS3.out.sub k (.inl hk)⟩
    · exact (((Ext.keeps HE.out).then HS3.out.keeps (fun i hi h => h)).then hk (fun i hi h => by unfold OneB at h; omega)).drew
    · rcases HS3.out.inM k hk with (h1 | h1) | h1
      · exact .inl h1
      · exact .inr (by omega)
      · exact .inr (by omega)
set_option maxHeartbeats 8000000 in
theorem act_down {F M B : Nat → Prop} (w : World) (b : Nat) (N : NA) (vw bv : Value) (x : Ac) (k : Nat) (hn : NetX w F M b N) (hr : RefX w M vw N) (hb : Bytes w B bv x.bytes) (hx : x.ok) (hxl : x.bytes.length ≤ 200) (hbd : NB N k) (hk : k ≤ 1000) (hw0 : x.what ≠ 0) (hw1 : x.what ≠ 1) (hw2 : x.what ≠ 2) (hw3 : x.what ≠ 3) :
    Calls Try.prog 18 #[.pointer (some ⟨b, 0, none⟩), vw, .agg #[.int .i64 x.what, .int .i64 x.src, .int .i64 x.dst, .int .i64 x.pick, bv, .bool x.is]] w (ActPost w F M b N x) := by
  obtain ⟨a, c, a', c', rfl⟩ := hr.len
  obtain ⟨a2, c2, rfl⟩ := hb.len
  obtain ⟨xw, xs, xd, xp, xb, xi⟩ := x
  dsimp only at hw0 hw1 hw2 hw3 hx hxl hb ⊢
  have HN := Lib.hid hn
  have HR := Lib.hid hr
  have HV := Lib.hid hb
  have HX := Lib.hid hx
  have HBD := Lib.hid hbd
  have HMw : Hid (∀ k, M k → k < w.heap.size) := Lib.hid hn.below
  have hbw := hn.lt
  clear hn hr hb hx hbd
  obtain ⟨r, hput⟩ : ∃ r, N.downR xs xd xi = r := ⟨_, rfl⟩
  obtain ⟨N', e⟩ := r
  have hact : N.act ⟨xw, xs, xd, xp, xb, xi⟩ = N' := by
    show NA.act N ⟨xw, xs, xd, xp, xb, xi⟩ = N'
    unfold NA.act
    dsimp only
    rw [if_neg hw0, if_neg hw1, if_neg hw2, if_neg hw3, hput]
  have HPUT := Lib.hid hput
  unfold ActPost
  rw [hact]
  clear hput hact
  have g0 : (xw == 0) = false := beq_eq_false_iff_ne.2 hw0
  have g1 : (xw == 1) = false := beq_eq_false_iff_ne.2 hw1
  have g2 : (xw == 2) = false := beq_eq_false_iff_ne.2 hw2
  have g3 : (xw == 3) = false := beq_eq_false_iff_ne.2 hw3
  go_enter Try.func18, Try.ntmps18
  go_wp2_with fail
  have bx0 := (((Box.new w 41 [.int .i64 (N.ends : Int), .int .i64 (N.most : Int), .int .i64 (N.came : Int), .slice a N.l.length c, .slice a' N.downs.length c']).alloc (Obj.cells #[.int .i64 xw, .int .i64 xs, .int .i64 xd, .int .i64 xp, .slice a2 xb.length c2, .bool xi] 36)).alloc (Obj.cells #[.int .i64 0, .int .i64 0, .int .i64 0, .slice none 0 0, .slice none 0 0] 41))
  have bx1 := ((Box.new (w.alloc (Obj.cells #[.int .i64 (N.ends : Int), .int .i64 (N.most : Int), .int .i64 (N.came : Int), .slice a N.l.length c, .slice a' N.downs.length c'] 41)) 36 [.int .i64 xw, .int .i64 xs, .int .i64 xd, .int .i64 xp, .slice a2 xb.length c2, .bool xi]).alloc (Obj.cells #[.int .i64 0, .int .i64 0, .int .i64 0, .slice none 0 0, .slice none 0 0] 41))
  have bx2 := (Box.new ((w.alloc (Obj.cells #[.int .i64 (N.ends : Int), .int .i64 (N.most : Int), .int .i64 (N.came : Int), .slice a N.l.length c, .slice a' N.downs.length c'] 41)).alloc (Obj.cells #[.int .i64 xw, .int .i64 xs, .int .i64 xd, .int .i64 xp, .slice a2 xb.length c2, .bool xi] 36)) 41 [.int .i64 0, .int .i64 0, .int .i64 0, .slice none 0 0, .slice none 0 0])
  have ex : Ext w (((w.alloc (Obj.cells #[.int .i64 (N.ends : Int), .int .i64 (N.most : Int), .int .i64 (N.came : Int), .slice a N.l.length c, .slice a' N.downs.length c'] 41)).alloc (Obj.cells #[.int .i64 xw, .int .i64 xs, .int .i64 xd, .int .i64 xp, .slice a2 xb.length c2, .bool xi] 36)).alloc (Obj.cells #[.int .i64 0, .int .i64 0, .int .i64 0, .slice none 0 0, .slice none 0 0] 41)) := ((((Keeps.refl NoB w).alloc _).alloc _).alloc _)
  have sx : (((w.alloc (Obj.cells #[.int .i64 (N.ends : Int), .int .i64 (N.most : Int), .int .i64 (N.came : Int), .slice a N.l.length c, .slice a' N.downs.length c'] 41)).alloc (Obj.cells #[.int .i64 xw, .int .i64 xs, .int .i64 xd, .int .i64 xp, .slice a2 xb.length c2, .bool xi] 36)).alloc (Obj.cells #[.int .i64 0, .int .i64 0, .int .i64 0, .slice none 0 0, .slice none 0 0] 41)).heap.size = w.heap.size + 3 := by simp
  simp only [World.size_alloc] at bx1 bx2
  generalize (((w.alloc (Obj.cells #[.int .i64 (N.ends : Int), .int .i64 (N.most : Int), .int .i64 (N.came : Int), .slice a N.l.length c, .slice a' N.downs.length c'] 41)).alloc (Obj.cells #[.int .i64 xw, .int .i64 xs, .int .i64 xd, .int .i64 xp, .slice a2 xb.length c2, .bool xi] 36)).alloc (Obj.cells #[.int .i64 0, .int .i64 0, .int .i64 0, .slice none 0 0, .slice none 0 0] 41)) = w0 at bx0 bx1 bx2 ex sx ⊢
  have Sx := Lib.hid sx
  clear sx
  have hs0 := bx2.lt
  have HR0 : Hid (RefX w0 (fun k => M k ∨ k = w.heap.size + 1 + 1) _ N) := Lib.hid (HR.out.more ex (fun k hk => hk.imp id (fun h => by omega)))
  have HN0 : Hid (NetX w0 F (fun k => M k ∨ k = w.heap.size + 1 + 1) b N) := Lib.hid (HN.out.more ex (fun k hk => .inl hk) (fun k hk => hk.imp id (fun h => by omega)))
  have HM0 : Hid (∀ k, M k ∨ k = w.heap.size + 1 + 1 → k < w0.heap.size) := Lib.hid (fun k hk => hk.elim (fun h => by have := HMw.out k h; omega) (fun h => by omega))
  have B0 := Lib.hid bx0
  have B1 := Lib.hid bx1
  have B2 := Lib.hid bx2
  have HE := Lib.hid ex
  clear ex bx0 bx1 bx2
  obtain ⟨cB0, zB0⟩ := B0.out.reads
  have lB0 := B0.out.lt
  obtain ⟨cB1, zB1⟩ := B1.out.reads
  have lB1 := B1.out.lt
  obtain ⟨cB2, zB2⟩ := B2.out.reads
  have lB2 := B2.out.lt
  go_wp2_with fail
  refine (rdownX (M := fun k => M k ∨ k = w.heap.size + 1 + 1) w0 _ N xs xd xi HR0.out HM0.out HBD.out hk N' e e HPUT.out rfl).mono ?_
  rintro r w1 ⟨v', rfl, hx1, hE1⟩
  obtain ⟨a1, d1, a1', d1', rfl⟩ := hx1.len
  have HX1 := Lib.hid hx1
  clear cB0 zB0 lB0 cB1 zB1 lB1 cB2 zB2 lB2
  have h01 := hE1.size
  replace HE := Lib.hid (HE.out.ext hE1)
  replace B0 := Lib.hid (B0.out.ext hE1)
  replace B1 := Lib.hid (B1.out.ext hE1)
  replace B2 := Lib.hid (B2.out.ext hE1)
  replace HN0 := Lib.hid (HN0.out.ext hE1)
  clear hx1 hE1 HR0
  obtain ⟨cB0, zB0⟩ := B0.out.reads
  have lB0 := B0.out.lt
  obtain ⟨cB1, zB1⟩ := B1.out.reads
  have lB1 := B1.out.lt
  obtain ⟨cB2, zB2⟩ := B2.out.reads
  have lB2 := B2.out.lt
  go_wp2_with fail
  clear cB0 zB0 lB0 cB1 zB1 lB1 cB2 zB2 lB2
  have bp0 := (Box.new w1 41 [.int .i64 (N'.ends : Int), .int .i64 (N'.most : Int), .int .i64 (N'.came : Int), .slice a1 N'.l.length d1, .slice a1' N'.downs.length d1'])
  have ep : Ext w1 (w1.alloc (Obj.cells #[.int .i64 (N'.ends : Int), .int .i64 (N'.most : Int), .int .i64 (N'.came : Int), .slice a1 N'.l.length d1, .slice a1' N'.downs.length d1'] 41)) := ((Keeps.refl NoB w1).alloc _)
  have sp : (w1.alloc (Obj.cells #[.int .i64 (N'.ends : Int), .int .i64 (N'.most : Int), .int .i64 (N'.came : Int), .slice a1 N'.l.length d1, .slice a1' N'.downs.length d1'] 41)).heap.size = w1.heap.size + 1 := by simp
  generalize (w1.alloc (Obj.cells #[.int .i64 (N'.ends : Int), .int .i64 (N'.most : Int), .int .i64 (N'.came : Int), .slice a1 N'.l.length d1, .slice a1' N'.downs.length d1'] 41)) = w2 at bp0 ep sp ⊢
  have Sp := Lib.hid sp
  clear sp
  have D0 := Lib.hid bp0
  have h12 := bp0.lt
  replace HE := Lib.hid (HE.out.ext ep)
  replace B0 := Lib.hid (B0.out.ext ep)
  replace B1 := Lib.hid (B1.out.ext ep)
  replace B2 := Lib.hid (B2.out.ext ep)
  replace HN0 := Lib.hid (HN0.out.ext ep)
  replace HX1 := Lib.hid (HX1.out.ext ep)
  clear ep bp0
  have hsz := HE.out.size
  have HFw : Hid (∀ k, F k → k < w.heap.size) := Lib.hid (fun k hk => HMw.out k (HN.out.FM k hk))
  have hne : ¬ w1.heap.size = w.heap.size + 1 + 1 := by omega
  have hf1 : ¬ F w1.heap.size := fun h => by have := HFw.out _ h; omega
  have hf2 : ¬ F (w.heap.size + 1) := fun h => by have := HFw.out _ h; omega
  obtain ⟨cB0, zB0⟩ := B0.out.reads
  have lB0 := B0.out.lt
  obtain ⟨cB1, zB1⟩ := B1.out.reads
  have lB1 := B1.out.lt
  obtain ⟨cB2, zB2⟩ := B2.out.reads
  have lB2 := B2.out.lt
  obtain ⟨cD0, zD0⟩ := D0.out.reads
  have lD0 := D0.out.lt
  have hE0 : Keeps (fun k => F k ∨ k = w.heap.size + 1 + 1) w2 w2.drew := (Keeps.refl _ _).drew
  refine wp_region_plan [(1, 0), (0, 1), (0, 2), (3, 3), (0, 4), (3, 5), (0, 6), (3, 7), (0, 10), (2, 8), (2, 9), (0, 11)] [0] [8, 9, 12, 13] [12, 13] (ClsK (fun k => F k ∨ k = w.heap.size + 1 + 1) w2) (by kernel_rfl) (by kernel_rfl) (by kernel_rfl) rfl rfl (ClsK.of hE0) (fun _ _ _ d _ h => by cases d <;> exact h) ?_; simp only [planL, List.getElem?_toArray, List.getElem?_cons_succ, List.getElem?_cons_zero]
  refine plan_load rfl (fun K hK => quiet_runK (v := ?_) (fun W => ?_) (hK _ ?_)); rotate_left; (go_simp <;> with_reducible rfl); clear hK K; simp only [Act.put, List.setIfInBounds_toArray, List.set_cons_zero, List.set_cons_succ]
  refine plan_pure rfl (fun K hK => quiet_move' _ rfl (hK _ ?_)); clear hK K; simp only [Act.put, Act.eval, Array.getD_eq_getD_getElem?, List.getElem?_toArray, List.getElem?_cons_zero, Option.getD_some, List.setIfInBounds_toArray, List.set_cons_zero, List.set_cons_succ]
  refine plan_pure rfl (fun K hK => quiet_run (v := ?_) (fun W _ => ?_) (hK _ ?_)); rotate_left; (go_simp <;> with_reducible rfl); clear hK K; simp only [Act.put, List.setIfInBounds_toArray, List.set_cons_zero, List.set_cons_succ]
  refine plan_exact rfl (fun K hK => quiet_runX (v := ?_) ?_ (hK _ ?_)); rotate_left; (go_simp <;> with_reducible rfl); clear hK K; simp only [Act.put, List.setIfInBounds_toArray, List.set_cons_zero, List.set_cons_succ]
  refine plan_pure rfl (fun K hK => quiet_run (v := ?_) (fun W _ => ?_) (hK _ ?_)); rotate_left; (go_simp <;> with_reducible rfl); clear hK K; simp only [Act.put, List.setIfInBounds_toArray, List.set_cons_zero, List.set_cons_succ]
  refine plan_exact rfl (fun K hK => quiet_runX (v := ?_) ?_ (hK _ ?_)); rotate_left; (go_simp <;> with_reducible rfl); clear hK K; simp only [Act.put, List.setIfInBounds_toArray, List.set_cons_zero, List.set_cons_succ]
  refine plan_pure rfl (fun K hK => quiet_run (v := ?_) (fun W _ => ?_) (hK _ ?_)); rotate_left; (go_simp <;> with_reducible rfl); clear hK K; simp only [Act.put, List.setIfInBounds_toArray, List.set_cons_zero, List.set_cons_succ]
  refine plan_exact rfl (fun K hK => quiet_runX (v := ?_) ?_ (hK _ ?_)); rotate_left; (go_simp <;> with_reducible rfl); clear hK K; simp only [Act.put, List.setIfInBounds_toArray, List.set_cons_zero, List.set_cons_succ]
  refine plan_pure rfl (fun K hK => quiet_move' _ rfl (hK _ ?_)); clear hK K; simp only [Act.put, Act.eval, Array.getD_eq_getD_getElem?, List.getElem?_toArray, List.getElem?_cons_zero, List.getElem?_cons_succ, Option.getD_some, List.setIfInBounds_toArray, List.set_cons_zero, List.set_cons_succ]
  refine plan_does rfl (fun K hK => ?_)
  go_wp2_with fail
  refine (down_any w2.drew b N xs xd xi (HN0.out.ext (Ext.drew0 _)) HX.out.1 HX.out.2.1 N' e e HPUT.out rfl).mono ?_
  rintro r w3 ⟨rfl, hn3, hs3⟩
  have hE3 := hE0.then hs3.keeps (fun i hi h => .inl h)
  have HN3 := Lib.hid hn3
  have HS3 := Lib.hid hs3
  clear hn3 hs3
  refine hK _ _ ⟨ClsK.of (by assumption), ?_⟩; clear hK K; try simp only [Act.put, List.setIfInBounds_toArray, List.set_cons_zero, List.set_cons_succ]
  refine plan_does rfl (fun K hK => ?_)
  go_wp2_with fail
  refine (num_any _ _).mono ?_
  rintro r w6 ⟨rfl, rfl⟩
  refine hK _ _ ⟨ClsK.of (by assumption), ?_⟩; clear hK K; try simp only [Act.put, List.setIfInBounds_toArray, List.set_cons_zero, List.set_cons_succ]
  refine plan_pure rfl (fun K hK => quiet_run (v := ?_) (fun W _ => ?_) (hK _ ?_)); rotate_left; (go_simp <;> with_reducible rfl); clear hK K; simp only [Act.put, List.setIfInBounds_toArray, List.set_cons_zero, List.set_cons_succ]
  refine plan_nil ?_; simp only [tailL, List.filterMap_cons, List.filterMap_nil, List.getElem?_toArray, List.getElem?_cons_succ, List.getElem?_cons_zero]; change wpList _ _ _ (_ :: _ :: []) _ _
  clear cB0 zB0 lB0 cB1 zB1 lB1 cB2 zB2 lB2 cD0 zD0 lD0
  have hs3 : Step w2 w3 F (fun k => M k ∨ k = w.heap.size + 1 + 1) F (fun k => M k ∨ k = w.heap.size + 1 + 1) := ⟨((Ext.keeps (Ext.drew0 _)).trans HS3.out.keeps), fun _ h => .inl h, fun _ h => .inl h, fun _ h => h⟩
  have h23 := hs3.keeps.size
  replace B2 := Lib.hid (B2.out.keeps hs3.keeps (fun h => by have := HFw.out _ h; omega))
  have HX3 : Hid (RefX w3 (fun k => M k ∨ k = w.heap.size + 1 + 1) _ N') := Lib.hid (HX1.out.go hs3.keeps (fun k hk h => .inl (HN.out.FM k h)) (fun k hk => .inl hk))
  have HK3 := Lib.hid hs3.keeps
  clear hs3 hE3 B0 B1 D0 HS3 HX1
  obtain ⟨cB2, zB2⟩ := B2.out.reads
  have lB2 := B2.out.lt
  go_wp2_with fail
  clear cB2 zB2 lB2
  have q1 := ((((((B2.out.set 0 (.int .i64 (NA.ends N' : Int))).set 1 (.int .i64 (NA.most N' : Int))).set 2 (.int .i64 (NA.came N' : Int))).set 3 (.slice a1 N'.l.length d1))).set 4 (.slice a1' N'.downs.length d1'))
  dsimp only [List.set_cons_zero, List.set_cons_succ] at q1
  have hk : Keeps (OneB (w.heap.size + 1 + 1)) w3 (((((w3.setCell ⟨(w.heap.size + 1 + 1), 0, none⟩ (.int .i64 (NA.ends N' : Int))).setCell ⟨(w.heap.size + 1 + 1), 1, none⟩ (.int .i64 (NA.most N' : Int))).setCell ⟨(w.heap.size + 1 + 1), 2, none⟩ (.int .i64 (NA.came N' : Int))).setCell ⟨(w.heap.size + 1 + 1), 3, none⟩ (.slice a1 N'.l.length d1)).setCell ⟨(w.heap.size + 1 + 1), 4, none⟩ (.slice a1' N'.downs.length d1')) :=
    (((((Keeps.refl _ _).setOne _ _).setOne _ _).setOne _ _).setOne _ _).setOne _ _
  have q2 := q1.reads.1
  generalize (((((w3.setCell ⟨(w.heap.size + 1 + 1), 0, none⟩ (.int .i64 (NA.ends N' : Int))).setCell ⟨(w.heap.size + 1 + 1), 1, none⟩ (.int .i64 (NA.most N' : Int))).setCell ⟨(w.heap.size + 1 + 1), 2, none⟩ (.int .i64 (NA.came N' : Int))).setCell ⟨(w.heap.size + 1 + 1), 3, none⟩ (.slice a1 N'.l.length d1)).setCell ⟨(w.heap.size + 1 + 1), 4, none⟩ (.slice a1' N'.downs.length d1')) = w9 at q1 q2 hk ⊢
  have hks := hk.size
  refine bodyPost_ret (v := .tuple #[.agg #[.int .i64 (N'.ends : Int), .int .i64 (N'.most : Int), .int .i64 (N'.came : Int), .slice a1 N'.l.length d1, .slice a1' N'.downs.length d1'], .bool true]) (by simp [results, Try.results18, go_sem, q2]) rfl ?_
  refine ⟨F, (fun k => M k ∨ k = w.heap.size + 1 + 1), _, rfl, ?_, ?_, ?_⟩
  · refine (HN3.out.keeps hk (fun k hk h => ?_) (fun k hk h => .inr h))
    have := HFw.out k hk; unfold OneB at h; omega
  · exact (HX3.out.go hk (fun k hk h => .inr h) (fun k hk => .inl hk))
  · refine ⟨?_, fun k hk => .inl hk, fun k hk => hk.imp id (fun h => by omega), fun k hk => .inl hk⟩
    exact (((Ext.keeps HE.out).then HK3.out (fun i hi h => h)).then hk (fun i hi h => by unfold OneB at h; omega))
theorem act_any {F M B : Nat → Prop} (w : World) (b : Nat) (N : NA) (vw v : Value) (x : Ac) (k : Nat) (hn : NetX w F M b N) (hr : RefX w M vw N) (hv : ActV w B v x) (hx : x.ok) (hxl : x.bytes.length ≤ 200) (hbd : NB N k) (hk : k ≤ 1000) :
    Calls Try.prog 18 #[.pointer (some ⟨b, 0, none⟩), vw, v] w (ActPost w F M b N x) := by
  obtain ⟨bv, rfl, hb⟩ := hv
  by_cases h0 : x.what = 0
  · exact act_put w b N vw bv x k hn hr hb hx hxl hbd hk h0
  by_cases h1 : x.what = 1
  · exact act_peek w b N vw bv x k hn hr hb hx hxl hbd hk h1
  by_cases h2 : x.what = 2
  · exact act_take w b N vw bv x k hn hr hb hx hxl hbd hk h2
  by_cases h3 : x.what = 3
  · exact act_drop w b N vw bv x k hn hr hb hx hxl hbd hk h3
  exact act_down w b N vw bv x k hn hr hb hx hxl hbd hk h0 h1 h2 h3
end Go.Proofs.Ytdiogipdcpiffaa
