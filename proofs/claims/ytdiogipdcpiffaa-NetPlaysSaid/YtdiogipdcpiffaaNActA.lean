/- The net statements' call by both, the program and the document: Put. They tell the same, and stand alike behind it. Conditions: the net lies as 'NetX' says, the document's as 'RefX' says. -/
import Derived.Test.YtdiogipdcpiffaaNAct
set_option linter.unusedVariables false
set_option maxHeartbeats 400000
set_option maxRecDepth 10000
namespace Go.Proofs.Ytdiogipdcpiffaa
open Go.RowKit

set_option maxHeartbeats 8000000 in
theorem act_put {F M B : Nat → Prop} (w : World) (b : Nat) (N : NA) (vw bv : Value) (x : Ac) (k : Nat) (hn : NetX w F M b N) (hr : RefX w M vw N) (hb : Bytes w B bv x.bytes) (hx : x.ok) (hxl : x.bytes.length ≤ 200) (hbd : NB N k) (hk : k ≤ 1000) (hw : x.what = 0) :
    Calls Try.prog 18 #[.pointer (some ⟨b, 0, none⟩), vw, .agg #[.int .i64 x.what, .int .i64 x.src, .int .i64 x.dst, .int .i64 x.pick, bv, .bool x.is]] w (ActPost w F M b N x) := by
  obtain ⟨a, c, a', c', rfl⟩ := hr.len
  obtain ⟨a2, c2, rfl⟩ := hb.len
  obtain ⟨xw, xs, xd, xp, xb, xi⟩ := x
  dsimp only at hw hx hxl hb ⊢
  have HN := Lib.hid hn
  have HR := Lib.hid hr
  have HV := Lib.hid hb
  have HX := Lib.hid hx
  have HBD := Lib.hid hbd
  have HMw : Hid (∀ k, M k → k < w.heap.size) := Lib.hid hn.below
  have hbw := hn.lt
  clear hn hr hb hx hbd
  subst hw
  obtain ⟨r, hput⟩ : ∃ r, N.putR xs xd xb = r := ⟨_, rfl⟩
  obtain ⟨N', j, e⟩ := r
  have hact : N.act ⟨0, xs, xd, xp, xb, xi⟩ = N' := by
    show (N.putR xs xd xb).1 = N'
    rw [hput]
  have HPUT := Lib.hid hput
  unfold ActPost
  rw [hact]
  clear hput hact
  go_enter Try.func18, Try.ntmps18
  go_wp2_with fail
  have bx0 := (((Box.new w 41 [.int .i64 (N.ends : Int), .int .i64 (N.most : Int), .int .i64 (N.came : Int), .slice a N.l.length c, .slice a' N.downs.length c']).alloc (Obj.cells #[.int .i64 0, .int .i64 xs, .int .i64 xd, .int .i64 xp, .slice a2 xb.length c2, .bool xi] 36)).alloc (Obj.cells #[.int .i64 0, .int .i64 0, .int .i64 0, .slice none 0 0, .slice none 0 0] 41))
  have bx1 := ((Box.new (w.alloc (Obj.cells #[.int .i64 (N.ends : Int), .int .i64 (N.most : Int), .int .i64 (N.came : Int), .slice a N.l.length c, .slice a' N.downs.length c'] 41)) 36 [.int .i64 0, .int .i64 xs, .int .i64 xd, .int .i64 xp, .slice a2 xb.length c2, .bool xi]).alloc (Obj.cells #[.int .i64 0, .int .i64 0, .int .i64 0, .slice none 0 0, .slice none 0 0] 41))
  have bx2 := (Box.new ((w.alloc (Obj.cells #[.int .i64 (N.ends : Int), .int .i64 (N.most : Int), .int .i64 (N.came : Int), .slice a N.l.length c, .slice a' N.downs.length c'] 41)).alloc (Obj.cells #[.int .i64 0, .int .i64 xs, .int .i64 xd, .int .i64 xp, .slice a2 xb.length c2, .bool xi] 36)) 41 [.int .i64 0, .int .i64 0, .int .i64 0, .slice none 0 0, .slice none 0 0])
  have ex : Ext w (((w.alloc (Obj.cells #[.int .i64 (N.ends : Int), .int .i64 (N.most : Int), .int .i64 (N.came : Int), .slice a N.l.length c, .slice a' N.downs.length c'] 41)).alloc (Obj.cells #[.int .i64 0, .int .i64 xs, .int .i64 xd, .int .i64 xp, .slice a2 xb.length c2, .bool xi] 36)).alloc (Obj.cells #[.int .i64 0, .int .i64 0, .int .i64 0, .slice none 0 0, .slice none 0 0] 41)) := ((((Keeps.refl NoB w).alloc _).alloc _).alloc _)
  have sx : (((w.alloc (Obj.cells #[.int .i64 (N.ends : Int), .int .i64 (N.most : Int), .int .i64 (N.came : Int), .slice a N.l.length c, .slice a' N.downs.length c'] 41)).alloc (Obj.cells #[.int .i64 0, .int .i64 xs, .int .i64 xd, .int .i64 xp, .slice a2 xb.length c2, .bool xi] 36)).alloc (Obj.cells #[.int .i64 0, .int .i64 0, .int .i64 0, .slice none 0 0, .slice none 0 0] 41)).heap.size = w.heap.size + 3 := by simp
  simp only [World.size_alloc] at bx1 bx2
  generalize (((w.alloc (Obj.cells #[.int .i64 (N.ends : Int), .int .i64 (N.most : Int), .int .i64 (N.came : Int), .slice a N.l.length c, .slice a' N.downs.length c'] 41)).alloc (Obj.cells #[.int .i64 0, .int .i64 xs, .int .i64 xd, .int .i64 xp, .slice a2 xb.length c2, .bool xi] 36)).alloc (Obj.cells #[.int .i64 0, .int .i64 0, .int .i64 0, .slice none 0 0, .slice none 0 0] 41)) = w0 at bx0 bx1 bx2 ex sx ⊢
  have Sx := Lib.hid sx
  clear sx
  have hs0 := bx2.lt
  have HR0 : Hid (RefX w0 (fun k => M k ∨ k = w.heap.size + 1 + 1) _ N) := Lib.hid (HR.out.more ex (fun k hk => hk.imp id (fun h => by omega)))
  have HN0 : Hid (NetX w0 F (fun k => M k ∨ k = w.heap.size + 1 + 1) b N) := Lib.hid (HN.out.more ex (fun k hk => .inl hk) (fun k hk => hk.imp id (fun h => by omega)))
  have HM0 : Hid (∀ k, M k ∨ k = w.heap.size + 1 + 1 → k < w0.heap.size) := Lib.hid (fun k hk => hk.elim (fun h => by have := HMw.out k h; omega) (fun h => by omega))
  have B0 := Lib.hid bx0
  have B1 := Lib.hid bx1
  have B2 := Lib.hid bx2
  have HE := Lib.hid ex
  clear ex bx0 bx1 bx2
  obtain ⟨cB0, zB0⟩ := B0.out.reads
  have lB0 := B0.out.lt
  obtain ⟨cB1, zB1⟩ := B1.out.reads
  have lB1 := B1.out.lt
  obtain ⟨cB2, zB2⟩ := B2.out.reads
  have lB2 := B2.out.lt
  go_wp2_with fail
  refine (rputX (M := fun k => M k ∨ k = w.heap.size + 1 + 1) w0 _ _ N xs xd xb HR0.out HM0.out (HV.out.ext HE.out) HBD.out hk (by omega) N' j e j e HPUT.out rfl rfl).mono ?_
  rintro r w1 ⟨v', rfl, hx1, hE1⟩
  obtain ⟨a1, d1, a1', d1', rfl⟩ := hx1.len
  clear cB0 zB0 lB0 cB1 zB1 lB1 cB2 zB2 lB2
  have h01 := hE1.size
  replace HE := Lib.hid (HE.out.ext hE1)
  replace B0 := Lib.hid (B0.out.ext hE1)
  replace B1 := Lib.hid (B1.out.ext hE1)
  replace B2 := Lib.hid (B2.out.ext hE1)
  replace HN0 := Lib.hid (HN0.out.ext hE1)
  have HX1 := Lib.hid hx1
  clear hx1 hE1
  obtain ⟨cB0, zB0⟩ := B0.out.reads
  have lB0 := B0.out.lt
  obtain ⟨cB1, zB1⟩ := B1.out.reads
  have lB1 := B1.out.lt
  obtain ⟨cB2, zB2⟩ := B2.out.reads
  have lB2 := B2.out.lt
  go_wp2_with (at_builtin; refine standing ?_)
  clear cB0 zB0 lB0 cB1 zB1 lB1 cB2 zB2 lB2
  have by0 := ((Box.new w1 41 [.int .i64 (N'.ends : Int), .int .i64 (N'.most : Int), .int .i64 (N'.came : Int), .slice a1 N'.l.length d1, .slice a1' N'.downs.length d1']).alloc (Obj.cells #[] 5))
  have by1 := (Box.new (w1.alloc (Obj.cells #[.int .i64 (N'.ends : Int), .int .i64 (N'.most : Int), .int .i64 (N'.came : Int), .slice a1 N'.l.length d1, .slice a1' N'.downs.length d1'] 41)) 5 [])
  have ey : Ext w1 ((w1.alloc (Obj.cells #[.int .i64 (N'.ends : Int), .int .i64 (N'.most : Int), .int .i64 (N'.came : Int), .slice a1 N'.l.length d1, .slice a1' N'.downs.length d1'] 41)).alloc (Obj.cells #[] 5)) := (((Keeps.refl NoB w1).alloc _).alloc _)
  have sy : ((w1.alloc (Obj.cells #[.int .i64 (N'.ends : Int), .int .i64 (N'.most : Int), .int .i64 (N'.came : Int), .slice a1 N'.l.length d1, .slice a1' N'.downs.length d1'] 41)).alloc (Obj.cells #[] 5)).heap.size = w1.heap.size + 2 := by simp
  simp only [World.size_alloc] at by1
  generalize ((w1.alloc (Obj.cells #[.int .i64 (N'.ends : Int), .int .i64 (N'.most : Int), .int .i64 (N'.came : Int), .slice a1 N'.l.length d1, .slice a1' N'.downs.length d1'] 41)).alloc (Obj.cells #[] 5)) = w2 at by0 by1 ey sy ⊢
  have Sy := Lib.hid sy
  clear sy
  obtain ⟨v5, w5, hr5, hwin5, hk5, ho5⟩ := append_bytes w2 (w1.heap.size + 1) (.slice (some ⟨w1.heap.size + 1, 0, none⟩) 0 0) [] 30 (Win.empty (Nat.le_refl _) by1.lt) _ xb ((HV.out.ext HE.out).ext ey) (by simp; omega) (by have := by1.lt; omega)
  simp only [List.nil_append] at hwin5
  obtain ⟨a5, d5, rfl⟩ := hwin5.len
  have hE5 : Ext w1 w5 := ey.then hk5 (fun i hi h2 => by have := own_eq h2; omega)
  have HFw : Hid (∀ k, F k → k < w.heap.size) := Lib.hid (fun k hk => HMw.out k (HN.out.FM k hk))
  have hsz := HE.out.size
  have h15 := hE5.size
  have h25 := hk5.size
  have hl2 := by1.lt
  have C0 := Lib.hid (by0.keeps hk5 (fun h2 => by have := own_eq h2; omega))
  have HW5 := Lib.hid hwin5
  have HE5 := Lib.hid hE5
  replace B0 := Lib.hid (B0.out.ext hE5)
  replace B1 := Lib.hid (B1.out.ext hE5)
  replace B2 := Lib.hid (B2.out.ext hE5)
  have HN5 : Hid (NetX w5 F (fun k => (M k ∨ k = w.heap.size + 1 + 1) ∨ (w1.heap.size + 1 ≤ k ∧ k < w5.heap.size)) b N) := Lib.hid (HN0.out.more hE5 (fun k hk => .inl hk) (fun k hk => hk.imp id (fun h => ⟨by omega, h.2⟩)))
  refine ⟨?_⟩
  clear by0 by1 ey hk5 ho5 hwin5 hE5
  refine wpList_append_ran rfl _ _ hr5 rfl rfl rfl ?_
  clear hr5
  obtain ⟨cB0, zB0⟩ := B0.out.reads
  have lB0 := B0.out.lt
  obtain ⟨cB1, zB1⟩ := B1.out.reads
  have lB1 := B1.out.lt
  obtain ⟨cB2, zB2⟩ := B2.out.reads
  have lB2 := B2.out.lt
  obtain ⟨cC0, zC0⟩ := C0.out.reads
  have lC0 := C0.out.lt
  go_wp2_with fail
  clear cB0 zB0 lB0 cB1 zB1 lB1 cB2 zB2 lB2 cC0 zC0 lC0
  refine (put_any (B := fun k => w1.heap.size + 1 ≤ k ∧ k < w5.heap.size) w5 b N xs xd _ xb HN5.out HX.out.1 HX.out.2.1 (Bytes.of_win HW5.out) (by omega) (by have := HBD.out.c; omega) N' j e e j HPUT.out rfl rfl).mono ?_
  rintro r w7 ⟨F', M', rfl, hn7, hs7⟩
  have HN7 := Lib.hid hn7
  have HS7 := Lib.hid hs7
  have h57 := hs7.keeps.size
  replace B2 := Lib.hid (B2.out.keeps hs7.keeps (fun h => by have := HFw.out _ h; omega))
  replace C0 := Lib.hid (C0.out.keeps hs7.keeps (fun h => by have := HFw.out _ h; omega))
  have HW7 := Lib.hid (HW5.out.keeps hs7.keeps (fun g hg h => by have := HFw.out _ h; have := HW5.out.block g hg; omega))
  clear hn7 hs7 B0 B1
  go_wp2_with fail
  go_loopw [14] (fun i wr => ∃ (k : Nat) (l' : List UInt8), k ≤ xb.length ∧ i = .int .i64 k ∧ Hid (Win wr (w1.heap.size + 1) 1 (.slice a5 xb.length d5) xb.length (l'.map byV)) ∧ Hid (Keeps (fun g => w1.heap.size + 1 ≤ g ∧ g < w5.heap.size) w7 wr)) (fun i _ => xb.length - (intOf i).toNat)
  case atStart => exact ⟨0, xb, Nat.zero_le _, rfl, HW7, Lib.hid (Keeps.refl _ _)⟩
  case round =>
    obtain ⟨k, l', hk, rfl, hwin, hkp⟩ := hrel
    by_cases hlt : k < xb.length
    · obtain ⟨g, o, cap, hv, hg1, hg2, hg3, hg4⟩ := hwin.out.form (by omega)
      cases hv
      obtain ⟨-, ⟨h, -⟩ | ⟨g', o', cap', h, -, -, -, -, hth, -⟩⟩ := hwin.out
      · cases h
      cases h
      have hl' : l'.length = xb.length := by have := hwin.out.1; simpa using this
      have hc0 := hg4 k (byV l'[k]) (by simp [hl', hlt])
      have hf0 := (hth k (by omega)).2
      have hgw := hwin.out.block g rfl
      have hg56 : g < w5.heap.size := by have := (HW5.out.block g rfl).2; omega
      have hbump := byte_wrap l'[k]
      obtain ⟨d, hd⟩ : ∃ d, l'[k] + 1 = d := ⟨_, rfl⟩
      rw [hd] at hbump
      have HN1 := Lib.hid (hwin.out.bump k hlt d)
      have HK1 := Lib.hid (hkp.out.setCell ⟨g, o + k, none⟩ (byV d) (.inl ⟨hg1, hg56⟩))
      clear hwin hkp hg4 hth hgw hd
      generalize l'[k] = cc at hc0 hbump
      unfold byV at hc0
      go_wp2_with fail
      go_roundw
      case rel => exact ⟨k + 1, l'.set k d, by omega, by go_num, HN1, HK1⟩
      case measure => simp [intOf]; omega
    · go_wp2_with fail
      have h7r := hkp.out.size
      have HKP := Lib.hid hkp.out
      replace B2 := Lib.hid (B2.out.keeps hkp.out (fun h => by omega))
      replace C0 := Lib.hid (C0.out.keeps hkp.out (fun h => by omega))
      have hne : ¬ w1.heap.size = w.heap.size + 1 + 1 := by omega
      clear hwin hkp
      obtain ⟨cB2, zB2⟩ := B2.out.reads
      have lB2 := B2.out.lt
      obtain ⟨cC0, zC0⟩ := C0.out.reads
      have lC0 := C0.out.lt
      have hE0 : Keeps (OneB (w.heap.size + 1 + 1)) wr wr.drew := (Keeps.refl _ _).drew
      refine wp_region_plan [(1, 0), (0, 1), (0, 2), (0, 3), (0, 4), (0, 5), (0, 7), (2, 6), (0, 8), (0, 9)] [0] [6, 10, 11] [10, 11] (ClsK (OneB (w.heap.size + 1 + 1)) wr) (by kernel_rfl) (by kernel_rfl) (by kernel_rfl) rfl rfl (ClsK.of hE0) (fun _ _ _ d _ h => by cases d <;> exact h) ?_; simp only [planL, List.getElem?_toArray, List.getElem?_cons_succ, List.getElem?_cons_zero]
      refine plan_load rfl (fun K hK => quiet_runK (v := ?_) (fun W => ?_) (hK _ ?_)); rotate_left; (go_simp <;> with_reducible rfl); clear hK K; simp only [Act.put, List.setIfInBounds_toArray, List.set_cons_zero, List.set_cons_succ]
      refine plan_pure rfl (fun K hK => quiet_move' _ rfl (hK _ ?_)); clear hK K; simp only [Act.put, Act.eval, Array.getD_eq_getD_getElem?, List.getElem?_toArray, List.getElem?_cons_zero, List.getElem?_cons_succ, Option.getD_some, List.setIfInBounds_toArray, List.set_cons_zero, List.set_cons_succ]
      refine plan_pure rfl (fun K hK => quiet_move' _ rfl (hK _ ?_)); clear hK K; simp only [Act.put, Act.eval, Array.getD_eq_getD_getElem?, List.getElem?_toArray, List.getElem?_cons_zero, List.getElem?_cons_succ, Option.getD_some, List.setIfInBounds_toArray, List.set_cons_zero, List.set_cons_succ]
      refine plan_pure rfl (fun K hK => quiet_run (v := ?_) (fun W _ => ?_) (hK _ ?_)); rotate_left; (go_simp <;> with_reducible rfl); clear hK K; simp only [Act.put, List.setIfInBounds_toArray, List.set_cons_zero, List.set_cons_succ]
      refine plan_pure rfl (fun K hK => quiet_move' _ rfl (hK _ ?_)); clear hK K; simp only [Act.put, Act.eval, Array.getD_eq_getD_getElem?, List.getElem?_toArray, List.getElem?_cons_zero, List.getElem?_cons_succ, Option.getD_some, List.setIfInBounds_toArray, List.set_cons_zero, List.set_cons_succ]
      first
      | (refine plan_skip rfl ?_; simp only [Act.put, List.setIfInBounds_toArray, List.set_cons_zero, List.set_cons_succ])
      | (refine plan_pure rfl (fun K hK => quiet_move' _ rfl (hK _ ?_)); clear hK K; simp only [Act.put, Act.eval, Array.getD_eq_getD_getElem?, List.getElem?_toArray, List.getElem?_cons_zero, List.getElem?_cons_succ, Option.getD_some, List.setIfInBounds_toArray, List.set_cons_zero, List.set_cons_succ])
      first
      | (refine plan_skip rfl ?_; simp only [Act.put, List.setIfInBounds_toArray, List.set_cons_zero, List.set_cons_succ])
      | (refine plan_pure rfl (fun K hK => quiet_move' _ rfl (hK _ ?_)); clear hK K; simp only [Act.put, Act.eval, Array.getD_eq_getD_getElem?, List.getElem?_toArray, List.getElem?_cons_zero, List.getElem?_cons_succ, Option.getD_some, List.setIfInBounds_toArray, List.set_cons_zero, List.set_cons_succ])
      first
      | (refine plan_skip rfl ?_; simp only [Act.put, List.setIfInBounds_toArray, List.set_cons_zero, List.set_cons_succ])
      | (refine plan_does rfl (fun K hK => ?_))
      go_wp2_with fail
      refine (num_any _ _).mono ?_
      rintro e w' ⟨rfl, rfl⟩
      refine hK _ _ ⟨ClsK.of (by assumption), ?_⟩; clear hK K; try simp only [Act.put, List.setIfInBounds_toArray, List.set_cons_zero, List.set_cons_succ]
      first
      | (refine plan_skip rfl ?_; simp only [Act.put, List.setIfInBounds_toArray, List.set_cons_zero, List.set_cons_succ])
      | (refine plan_pure rfl (fun K hK => quiet_run (v := ?_) (fun W _ => ?_) (hK _ ?_)); rotate_left; (go_simp <;> with_reducible rfl); clear hK K; simp only [Act.put, List.setIfInBounds_toArray, List.set_cons_zero, List.set_cons_succ])
      refine plan_pure rfl (fun K hK => quiet_run (v := ?_) (fun W _ => ?_) (hK _ ?_)); rotate_left; (go_simp <;> with_reducible rfl); clear hK K; simp only [Act.put, List.setIfInBounds_toArray, List.set_cons_zero, List.set_cons_succ]
      refine plan_nil ?_; simp only [tailL, List.filterMap_cons, List.filterMap_nil, List.getElem?_toArray, List.getElem?_cons_succ, List.getElem?_cons_zero]; change wpList _ _ _ (_ :: _ :: []) _ _
      go_wp2_with fail
      clear cB2 zB2 lB2 cC0 zC0 lC0
      have q1 := ((((((B2.out.set 0 (.int .i64 (NA.ends N' : Int))).set 1 (.int .i64 (NA.most N' : Int))).set 2 (.int .i64 (NA.came N' : Int))).set 3 (.slice a1 N'.l.length d1))).set 4 (.slice a1' N'.downs.length d1'))
      dsimp only [List.set_cons_zero, List.set_cons_succ] at q1
      have hk : Keeps (OneB (w.heap.size + 1 + 1)) wr (((((wr.setCell ⟨(w.heap.size + 1 + 1), 0, none⟩ (.int .i64 (NA.ends N' : Int))).setCell ⟨(w.heap.size + 1 + 1), 1, none⟩ (.int .i64 (NA.most N' : Int))).setCell ⟨(w.heap.size + 1 + 1), 2, none⟩ (.int .i64 (NA.came N' : Int))).setCell ⟨(w.heap.size + 1 + 1), 3, none⟩ (.slice a1 N'.l.length d1)).setCell ⟨(w.heap.size + 1 + 1), 4, none⟩ (.slice a1' N'.downs.length d1')) :=
        (((((Keeps.refl _ _).setOne _ _).setOne _ _).setOne _ _).setOne _ _).setOne _ _
      have q2 := q1.reads.1
      generalize (((((wr.setCell ⟨(w.heap.size + 1 + 1), 0, none⟩ (.int .i64 (NA.ends N' : Int))).setCell ⟨(w.heap.size + 1 + 1), 1, none⟩ (.int .i64 (NA.most N' : Int))).setCell ⟨(w.heap.size + 1 + 1), 2, none⟩ (.int .i64 (NA.came N' : Int))).setCell ⟨(w.heap.size + 1 + 1), 3, none⟩ (.slice a1 N'.l.length d1)).setCell ⟨(w.heap.size + 1 + 1), 4, none⟩ (.slice a1' N'.downs.length d1')) = w9 at q1 q2 hk ⊢
      have hks := hk.size
      refine bodyPost_ret (v := .tuple #[.agg #[.int .i64 (N'.ends : Int), .int .i64 (N'.most : Int), .int .i64 (N'.came : Int), .slice a1 N'.l.length d1, .slice a1' N'.downs.length d1'], .bool true]) (by simp [results, Try.results18, go_sem, q2]) rfl ?_
      have hloc : Keeps (fun g => g = w.heap.size + 1 + 1 ∨ (w1.heap.size + 1 ≤ g ∧ g < w5.heap.size)) w7 w9.drew := ((HKP.out.mono (fun _ _ h => Or.inr h)).then hk (fun i hi h => .inl h)).drew
      refine ⟨F', M', _, rfl, ?_, ?_, ?_⟩
      · refine HN7.out.keeps hloc (fun k hk h => ?_) (fun k hk h => ?_)
        · rcases HS7.out.inF k hk with h1 | h1
          · have := HFw.out k h1; omega
          · omega
        · refine HS7.out.sub k ?_
          rcases h with h | h
          · exact .inl (.inr h)
          · exact .inr h
      · have h1f : Keeps (fun g => F g ∨ g = w.heap.size + 1 + 1) w1 w9.drew := ((Ext.keeps HE5.out).then HS7.out.keeps (fun i hi h => .inl h)).then hloc (fun i hi h => h.elim .inr (fun h => by omega))
        refine HX1.out.go h1f (fun k hk h => h.imp (HN.out.FM k) id) (fun k hk => ?_)
        rcases HS7.out.inM k hk with h1 | h1
        · exact h1.imp id (fun h => by omega)
        · exact .inr (by omega)
      · refine ⟨?_, fun k hk => ?_, fun k hk => ?_, fun k hk => HS7.out.sub k (.inl (.inl hk))⟩
        · exact (((Ext.keeps HE.out).ext HE5.out).then HS7.out.keeps (fun i hi h => h)).then hloc (fun i hi h => by omega)
        · exact (HS7.out.inF k hk).imp id (fun h => by omega)
        · rcases HS7.out.inM k hk with (h1 | h1) | h1
          · exact h1.imp id (fun h => by omega)
          · exact .inr (by omega)
          · exact .inr (by omega)
end Go.Proofs.Ytdiogipdcpiffaa
