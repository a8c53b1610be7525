/- The ring statements' 'played': a ring behind calls, and the document's; they tell the same. Conditions: the calls lie as 'Acts' says, and are few. -/
import Derived.Test.YtocjnieehogcbaaIs
set_option linter.unusedVariables false
set_option maxHeartbeats 400000
namespace Go.Proofs.Ytocjnieehogcbaa
open Go.RowKit

structure Fit (m k : Nat) (R : AR) : Prop where
  most : R.most = m
  lost : R.lost ≤ k
  small : ∀ x ∈ R.items, x.bytes.length ≤ 200
theorem Fit.act {m k : Nat} {R : AR} (h : Fit m k R) (hl : R.items.length ≤ R.most) (x : Ac) (hx : x.item.bytes.length ≤ 200) : Fit m (k + 1) (R.act x) := by
  have hlo := h.lost
  unfold AR.act
  split
  · have pm := put_main R x.item hl (by omega)
    exact ⟨pm.most.trans h.most, by have := pm.lost; omega, fun y hy => by
      rcases pm.sub y hy with h1 | h1
      · exact h.small y h1
      · rw [h1]; exact hx⟩
  · split
    · exact ⟨h.most, by dsimp only; omega, fun y hy => h.small y (List.mem_of_mem_tail hy)⟩
    · exact ⟨h.most, by dsimp only; omega, by simp⟩
def AR.acts (R : AR) (l : List Ac) : AR := l.foldl AR.act R
theorem acts_succ (R : AR) (l : List Ac) (k : Nat) (h : k < l.length) : R.acts (l.take (k + 1)) = (R.acts (l.take k)).act l[k] := by
  unfold AR.acts
  rw [List.take_succ_eq_append_getElem h, List.foldl_append]
  rfl

def PlayedPost (w : World) (m : Nat) (l : List Ac) (e : Ending) (w' : World) : Prop :=
  ∃ b v', e = .returned (.tuple #[.pointer (some ⟨b, 0, none⟩), v', .bool true]) ∧ RingX w' NoB b (AR.acts ⟨m, 0, []⟩ l) ∧ RefX w' (OneB b) v' (AR.acts ⟨m, 0, []⟩ l) ∧ Fit m l.length (AR.acts ⟨m, 0, []⟩ l) ∧ w.heap.size ≤ b ∧ Ext w w'

theorem played_out {A : Nat → Prop} (w : World) (m : Int) (v : Value) (l : List Ac) (h : Acts w A v l) (hm : m < 1 ∨ 64 < m) :
    Calls Try.prog 18 #[.int .i64 m, v] w fun e w' => e = .returned (.tuple #[.pointer none, .agg #[.int .i64 0, .slice none 0 0, .int .i64 0], .bool true]) ∧ Ext w w' := by
  obtain ⟨a, c, rfl, -⟩ := h.at
  clear h
  go_enter Try.func18, Try.ntmps18
  go_wp2_with fail
  refine (new_no _ m hm).mono ?_
  rintro e w' ⟨rfl, rfl⟩
  go_wp2_with fail
  have hE0 : Ext w (w.alloc (Obj.cells #[.int .i64 0, .slice none 0 0, .int .i64 0] 48)) := (Keeps.refl _ _).alloc _
  have B0 := Box.new w 48 [.int .i64 0, .slice none 0 0, .int .i64 0]
  refine (rnew_no _ m hm).mono ?_
  rintro e w1 ⟨rfl, hE1⟩
  have HE := Lib.hid (hE0.ext hE1)
  have BR := Lib.hid (B0.ext hE1)
  have hb := BR.out
  obtain ⟨c0, z0⟩ := hb.reads
  have l0 := hb.lt
  clear hE0 hE1 B0 hb
  go_wp2_with fail
  refine (num_any _ _).mono ?_
  rintro e w' ⟨rfl, rfl⟩
  go_wp2_with fail
  have bx0 := (Box.new w1 48 [.int .i64 0, .slice none 0 0, .int .i64 0])
  have ex : Ext w1 (w1.alloc (Obj.cells #[.int .i64 0, .slice none 0 0, .int .i64 0] 48)) := ((Keeps.refl NoB w1).alloc _)
  have sx : (w1.alloc (Obj.cells #[.int .i64 0, .slice none 0 0, .int .i64 0] 48)).heap.size = w1.heap.size + 1 := by simp
  generalize (w1.alloc (Obj.cells #[.int .i64 0, .slice none 0 0, .int .i64 0] 48)) = w2 at bx0 ex sx ⊢
  have Sx := Lib.hid sx
  clear sx
  have HE2 := Lib.hid (HE.out.ext ex)
  have B2 := Lib.hid (BR.out.ext ex)
  have hb2 := B2.out
  obtain ⟨d0, y0⟩ := hb2.reads
  obtain ⟨d1, y1⟩ := bx0.reads
  have m0 := hb2.lt
  have m1 := bx0.lt
  clear hb2 ex bx0 c0 z0
  go_wp2_with fail
  go_loop [11, 12] (fun f i => f = .bool true ∧ i = .int .i64 0) (fun _ _ => 0)
  case atStart => exact ⟨rfl, rfl⟩
  case round =>
    obtain ⟨rfl, rfl⟩ := hrel
    by_cases h0 : 0 < l.length
    all_goals
      go_wp2_with fail
      have hE0 : Keeps NoB w2 w2.drew := (Keeps.refl _ _).drew
      refine wp_region_plan [(0, 0), (3, 1), (0, 2), (0, 3)] [] [4, 5] [4, 5] (ClsE w2) (by kernel_rfl) (by kernel_rfl) (by kernel_rfl) rfl rfl (ClsE.of hE0) (fun _ _ _ d _ h => by cases d <;> exact h) ?_; simp only [planL, List.getElem?_toArray, List.getElem?_cons_succ, List.getElem?_cons_zero]
      refine plan_pure rfl (fun K hK => quiet_move' _ rfl (hK _ ?_)); clear hK K; simp only [Act.put, Act.eval, Array.getD_eq_getD_getElem?, List.getElem?_toArray, List.getElem?_cons_zero, List.getElem?_cons_succ, Option.getD_some, List.setIfInBounds_toArray, List.set_cons_zero, List.set_cons_succ]
      refine plan_exact rfl (fun K hK => quiet_runX (v := ?_) ?_ (hK _ ?_)); rotate_left; (go_simp <;> with_reducible rfl); clear hK K; simp only [Act.put, List.setIfInBounds_toArray, List.set_cons_zero, List.set_cons_succ]
      refine plan_pure rfl (fun K hK => quiet_move' _ rfl (hK _ ?_)); clear hK K; simp only [Act.put, Act.eval, Array.getD_eq_getD_getElem?, List.getElem?_toArray, List.getElem?_cons_zero, List.getElem?_cons_succ, Option.getD_some, List.setIfInBounds_toArray, List.set_cons_zero, List.set_cons_succ]
      refine plan_pure rfl (fun K hK => quiet_assign' _ rfl (hK _ ?_)); clear hK K; simp only [Act.put, Act.eval, Array.getD_eq_getD_getElem?, List.getElem?_toArray, List.getElem?_cons_zero, List.getElem?_cons_succ, Option.getD_some, List.setIfInBounds_toArray, List.set_cons_zero, List.set_cons_succ]
      refine plan_nil ?_; simp only [tailL, List.filterMap_cons, List.filterMap_nil, List.getElem?_toArray, List.getElem?_cons_succ, List.getElem?_cons_zero]; change wpList _ _ _ (_ :: _ :: []) _ _
      go_wp2_with fail
      have r1 := (((B2.out.set 0 (.int .i64 0)).set 1 (.slice none 0 0)).set 2 (.int .i64 0)).reads.1
      dsimp only [List.set_cons_zero, List.set_cons_succ] at r1
      clear d0 d1 y0 y1
      refine bodyPost_ret (v := .tuple #[.pointer none, .agg #[.int .i64 0, .slice none 0 0, .int .i64 0], .bool true]) (by simp [results, Try.results18, go_sem, r1]) rfl ⟨rfl, ?_⟩
      exact HE2.out.then (((((Keeps.refl (OneB w.heap.size) w2).setOne 0 (.int .i64 0)).setOne 1 (.slice none 0 0)).setOne 2 (.int .i64 0)).drew) (fun i hi h => by unfold OneB at h; omega)

def PM (b q p : Nat) : Nat → Prop := fun k => k = b ∨ TwoB q p k
structure PI (w wr : World) (b q p m k : Nat) (a : Option Addr) (c : Nat) (R : AR) : Prop where
  ring : RingX wr (TwoB q p) b R
  box : Box wr q 48 [.int .i64 (R.most : Int), .slice a R.items.length c, .int .i64 (R.lost : Int)]
  res : Box wr p 48 [.int .i64 0, .slice none 0 0, .int .i64 0]
  ref : RefX wr (PM b q p) (.agg #[.int .i64 (R.most : Int), .slice a R.items.length c, .int .i64 (R.lost : Int)]) R
  fit : Fit m k R
  ext : Ext w wr
  new : w.heap.size ≤ b ∧ w.heap.size ≤ q ∧ w.heap.size ≤ p ∧ b ≠ q ∧ b ≠ p ∧ q ≠ p

set_option maxHeartbeats 1000000 in
theorem played_in {A : Nat → Prop} (w : World) (m : Nat) (v : Value) (l : List Ac) (h : Acts w A v l) (h1 : 1 ≤ m) (h2 : m ≤ 64) (hs : ∀ x ∈ l, x.item.bytes.length ≤ 200) (hn : l.length ≤ 1000) (hA : ∀ k, A k → k < w.heap.size) :
    Calls Try.prog 18 #[.int .i64 (m : Int), v] w (PlayedPost w m l) := by
  have HA := Lib.hid hA
  have HS := Lib.hid hs
  obtain ⟨a, c, rfl, hat⟩ := h.at
  have HAT := Lib.hid hat
  clear h hA hat hs
  go_enter Try.func18, Try.ntmps18
  go_wp2_with fail
  have bx0 := (Box.new w 48 [.int .i64 0, .slice none 0 0, .int .i64 0])
  have ex : Ext w (w.alloc (Obj.cells #[.int .i64 0, .slice none 0 0, .int .i64 0] 48)) := ((Keeps.refl NoB w).alloc _)
  have sx : (w.alloc (Obj.cells #[.int .i64 0, .slice none 0 0, .int .i64 0] 48)).heap.size = w.heap.size + 1 := by simp
  generalize (w.alloc (Obj.cells #[.int .i64 0, .slice none 0 0, .int .i64 0] 48)) = w0 at bx0 ex sx ⊢
  have Sx := Lib.hid sx
  clear sx
  have BP := Lib.hid bx0
  have HE0 := Lib.hid ex
  clear bx0 ex
  refine (new_x (OneB w.heap.size) w0 m h1 h2 (fun k hk => by have := BP.out.lt; unfold OneB at hk; omega) _ rfl).mono ?_
  rintro e w1 ⟨b, rfl, hr, hE, hbw⟩
  have HR := Lib.hid hr
  have HE1 := Lib.hid (HE0.out.ext hE)
  replace BP := Lib.hid (BP.out.ext hE)
  have lb := hr.lt
  have lp := BP.out.lt
  clear hr hE
  go_wp2_with fail
  refine (rnew_yes w1 m h1 h2).mono ?_
  rintro e w2 ⟨rfl, hE⟩
  replace HR := Lib.hid (HR.out.ext hE)
  have HE2 := Lib.hid (HE1.out.ext hE)
  replace BP := Lib.hid (BP.out.ext hE)
  have h12 := hE.size
  clear hE
  go_wp2_with fail
  have by0 := (Box.new w2 48 [.int .i64 (m : Int), .slice none 0 0, .int .i64 0])
  have ey : Ext w2 (w2.alloc (Obj.cells #[.int .i64 (m : Int), .slice none 0 0, .int .i64 0] 48)) := ((Keeps.refl NoB w2).alloc _)
  have sy : (w2.alloc (Obj.cells #[.int .i64 (m : Int), .slice none 0 0, .int .i64 0] 48)).heap.size = w2.heap.size + 1 := by simp
  generalize (w2.alloc (Obj.cells #[.int .i64 (m : Int), .slice none 0 0, .int .i64 0] 48)) = w3 at by0 ey sy ⊢
  have Sy := Lib.hid sy
  clear sy
  have hsp := Sx.out
  have H3 : Hid (PI w w3 b w2.heap.size w.heap.size m 0 none 0 ⟨m, 0, []⟩) :=
    ⟨HR.out.grow (Ext.keeps ey) (by unfold OneB; omega) (fun k hk => by
    unfold TwoB at hk
    rcases hk with hk | hk
    · exact .inr (by omega)
    · exact .inl hk), by0, BP.out.ext ey, ⟨fun _ => False, ⟨_, rfl, SlV.nil⟩, fun k hk => hk.elim⟩, ⟨rfl, Nat.le_refl _, by simp⟩, HE2.out.ext ey, by omega, by omega, by omega, by omega, by omega, by omega⟩
  have hz0 := by0.lt
  have NEW := Lib.hid H3.out.new
  clear by0 ey hsp
  refine (num_any _ _).mono ?_
  rintro e w' ⟨rfl, rfl⟩
  go_wp2_with fail
  obtain ⟨q, hq⟩ : ∃ q, w2.heap.size = q := ⟨_, rfl⟩
  obtain ⟨p, hp⟩ : ∃ p, w.heap.size = p := ⟨_, rfl⟩
  rw [hq, hp] at H3 ⊢
  rw [hq, hp] at NEW
  have HP := Lib.hid hp
  rw [hq] at hz0
  clear hq hp BP HR HE2 HE1 HE0 lp lb h12
  go_loopw [11, 12] (fun f i wr => ∃ (k : Nat) (a' : Option Addr) (c' : Nat), f = .bool true ∧ k ≤ l.length ∧ i = .int .i64 k ∧ Hid (PI w wr b q p m k a' c' (AR.acts ⟨m, 0, []⟩ (l.take k)))) (fun _ i _ => l.length - (intOf i).toNat)
  case atStart => exact ⟨0, _, _, rfl, Nat.zero_le _, rfl, H3⟩
  case round =>
    obtain ⟨k, a', c', rfl, hk, rfl, hh⟩ := hrel
    clear H3
    by_cases hlt : k < l.length
    · have hsucc := acts_succ ⟨m, 0, []⟩ l k hlt
      obtain ⟨R, hR⟩ : ∃ R, AR.acts ⟨m, 0, []⟩ (l.take k) = R := ⟨_, rfl⟩
      rw [hR] at hh hsucc
      have HSU := Lib.hid hsucc
      clear hR hsucc
      obtain ⟨bl, ol, rfl, hc, hAb, i1, i2, i3, bv, i4, i5⟩ := HAT.out k hlt
      generalize hx : l[k] = x at i1 i2 i3 i4 i5 HSU
      have hx200 := HS.out x (hx ▸ List.getElem_mem hlt)
      clear hx
      have hEw := hh.out.ext
      have j1 := Ext.cell hEw i1
      have j2 := Ext.cell hEw i2
      have j3 := Ext.cell hEw i3
      have j4 := Ext.cell hEw i4
      obtain ⟨wh, ⟨sd, ky, bt⟩⟩ := x
      dsimp only at i1 i2 i3 i4 i5 hx200 j1 j2 j3 j4
      have hblw : bl < wr.heap.size := Nat.lt_of_lt_of_le (HA.out _ hAb) hEw.size
      have HI := Lib.hid (i5.ext hEw)
      obtain ⟨ab, cb, rfl⟩ := i5.len
      have HEW := Lib.hid hEw
      clear i1 i2 i3 i4 i5 hEw
      have hb0 := hh.out.box
      have hbp := hh.out.res
      obtain ⟨c0, z0⟩ := hb0.reads
      have l0 := hb0.lt
      have l1 := hbp.lt
      obtain ⟨hle1, hle2, hle3⟩ := hh.out.ring.le
      have hmo := hh.out.fit.most
      have hlo := hh.out.fit.lost
      have hrb := hh.out.ring.lt
      have hR1000 : R.items.length ≤ 1000 := by omega
      have hM1000 : R.most ≤ 1000 := by omega
      have hL1000 : R.lost ≤ 1000000 := by omega
      have hle := Lib.hid hle1
      clear hb0 hbp hle1 hle2 hle3 hmo hlo
      go_wp2_with fail
      have hE0 : Keeps (PM b q p) wr wr.drew := (Keeps.refl _ _).drew
      refine wp_region_plan [(0, 0), (3, 1), (0, 2), (0, 3), (0, 4), (3, 5), (2, 6), (0, 7), (0, 8), (0, 9)] [] [6, 10, 11] [10, 11] (ClsK (PM b q p) wr) (by kernel_rfl) (by kernel_rfl) (by kernel_rfl) rfl rfl (ClsK.of hE0) (fun _ _ _ d _ h => by cases d <;> exact h) ?_; simp only [planL, List.getElem?_toArray, List.getElem?_cons_succ, List.getElem?_cons_zero]
      refine plan_pure rfl (fun K hK => quiet_move' _ rfl (hK _ ?_)); clear hK K; simp only [Act.put, Act.eval, Array.getD_eq_getD_getElem?, List.getElem?_toArray, List.getElem?_cons_zero, List.getElem?_cons_succ, Option.getD_some, List.setIfInBounds_toArray, List.set_cons_zero, List.set_cons_succ]
      refine plan_exact rfl (fun K hK => quiet_runX (v := ?_) ?_ (hK _ ?_)); rotate_left; (go_simp <;> with_reducible rfl); clear hK K; simp only [Act.put, List.setIfInBounds_toArray, List.set_cons_zero, List.set_cons_succ]
      refine plan_pure rfl (fun K hK => quiet_move' _ rfl (hK _ ?_)); clear hK K; simp only [Act.put, Act.eval, Array.getD_eq_getD_getElem?, List.getElem?_toArray, List.getElem?_cons_zero, List.getElem?_cons_succ, Option.getD_some, List.setIfInBounds_toArray, List.set_cons_zero, List.set_cons_succ]
      refine plan_pure rfl (fun K hK => quiet_move' _ rfl (hK _ ?_)); clear hK K; simp only [Act.put, Act.eval, Array.getD_eq_getD_getElem?, List.getElem?_toArray, List.getElem?_cons_zero, List.getElem?_cons_succ, Option.getD_some, List.setIfInBounds_toArray, List.set_cons_zero, List.set_cons_succ]
      refine plan_pure rfl (fun K hK => quiet_run (v := ?_) (fun W _ => ?_) (hK _ ?_)); rotate_left; (go_simp <;> with_reducible rfl); clear hK K; simp only [Act.put, List.setIfInBounds_toArray, List.set_cons_zero, List.set_cons_succ]
      refine plan_exact rfl (fun K hK => quiet_runX (v := ?_) ?_ (hK _ ?_)); rotate_left; (go_simp <;> with_reducible rfl); clear hK K; simp only [Act.put, List.setIfInBounds_toArray, List.set_cons_zero, List.set_cons_succ]
      refine plan_does rfl (fun K hK => ?_)
      go_wp2_with fail
      have hnew := NEW.out
      refine (act_any (M := PM b q p) (N := TwoB q p) (B := A) wr.drew b R _ _ ⟨wh, ⟨sd, ky, bt⟩⟩ (hh.out.ring.ext (Ext.drew0 _)) (hh.out.ref.ext (Ext.drew0 _)) ⟨_, rfl, HI.out.ext (Ext.drew0 _)⟩ (fun k hk => by
        unfold PM TwoB at hk
        show k < wr.heap.size
        omega) (fun k hk => by
        unfold TwoB at hk
        show k < wr.heap.size
        omega) (.inl rfl) (by unfold TwoB; omega) (fun k hk => Nat.lt_of_lt_of_le (HA.out k hk) HEW.out.size) hR1000 hM1000 hL1000 (by dsimp only; omega)).mono ?_
      rintro e w4 ⟨v4, rfl, hx4, hr4, hk4⟩
      obtain ⟨a4, c4, rfl⟩ := hx4.len
      have HX4 := Lib.hid hx4
      have HR4 := Lib.hid hr4
      have hk4' : Keeps (OneB b) wr w4 := ((Keeps.refl (OneB b) wr).drew).trans hk4
      have HK4 := Lib.hid hk4'
      have B4 := Lib.hid (hh.out.box.keeps hk4' (by unfold OneB; omega))
      have P4 := Lib.hid (hh.out.res.keeps hk4' (by unfold OneB; omega))
      have hb4 := B4.out
      obtain ⟨c4', z4⟩ := hb4.reads
      have l4 := hb4.lt
      have hkc : Keeps (PM b q p) wr w4 := hk4'.mono (fun _ _ h => .inl h)
      clear hnew hx4 hr4 hk4 hk4' hb4
      refine hK _ _ ⟨ClsK.of (by assumption), ?_⟩; clear hK K; try simp only [Act.put, List.setIfInBounds_toArray, List.set_cons_zero, List.set_cons_succ]
      refine plan_pure rfl (fun K hK => quiet_move' _ rfl (hK _ ?_)); clear hK K; simp only [Act.put, Act.eval, Array.getD_eq_getD_getElem?, List.getElem?_toArray, List.getElem?_cons_zero, List.getElem?_cons_succ, Option.getD_some, List.setIfInBounds_toArray, List.set_cons_zero, List.set_cons_succ]
      refine plan_pure rfl (fun K hK => quiet_run (v := ?_) (fun W _ => ?_) (hK _ ?_)); rotate_left; (go_simp <;> with_reducible rfl); clear hK K; simp only [Act.put, List.setIfInBounds_toArray, List.set_cons_zero, List.set_cons_succ]
      refine plan_pure rfl (fun K hK => quiet_run (v := ?_) (fun W _ => ?_) (hK _ ?_)); rotate_left; (go_simp <;> with_reducible rfl); clear hK K; simp only [Act.put, List.setIfInBounds_toArray, List.set_cons_zero, List.set_cons_succ]
      refine plan_nil ?_; simp only [tailL, List.filterMap_cons, List.filterMap_nil, List.getElem?_toArray, List.getElem?_cons_succ, List.getElem?_cons_zero]; change wpList _ _ _ (_ :: _ :: []) _ _
      go_wp2_with fail
      obtain ⟨R', hR'⟩ : ∃ R', R.act ⟨wh, ⟨sd, ky, bt⟩⟩ = R' := ⟨_, rfl⟩
      have HFIT := Lib.hid (hh.out.fit.act hle.out ⟨wh, ⟨sd, ky, bt⟩⟩ hx200)
      rw [hR'] at HX4 HR4 HSU HFIT ⊢
      have hkq : Keeps (OneB q) w4 (((w4.setCell ⟨q, 0, none⟩ (.int .i64 (R'.most : Int))).setCell ⟨q, 1, none⟩ (.slice a4 R'.items.length c4)).setCell ⟨q, 2, none⟩ (.int .i64 (R'.lost : Int))) := (((Keeps.refl _ w4).setOne _ _).setOne _ _).setOne _ _
      have B5 := ((B4.out.set 0 (.int .i64 (R'.most : Int))).set 1 (.slice a4 R'.items.length c4)).set 2 (.int .i64 (R'.lost : Int))
      dsimp only [List.set_cons_zero, List.set_cons_succ] at B5
      generalize (((w4.setCell ⟨q, 0, none⟩ (.int .i64 (R'.most : Int))).setCell ⟨q, 1, none⟩ (.slice a4 R'.items.length c4)).setCell ⟨q, 2, none⟩ (.int .i64 (R'.lost : Int))) = w5 at hkq B5 ⊢
      have hnew := NEW.out
      have hp' := HP.out
      have H5 : Hid (PI w w5 b q p m (k + 1) a4 c4 R') := ⟨HR4.out.keeps hkq (fun k hk => .inl hk) (by unfold OneB; omega), B5, P4.out.keeps hkq (by unfold OneB; omega), HX4.out.keeps hkq (fun k _ hk => .inr (.inl hk)), HFIT.out,
        (HEW.out.then HK4.out (fun i hi h => by unfold OneB at h; omega)).then hkq (fun i hi h => by unfold OneB at h; omega), by omega, by omega, by omega, by omega, by omega, by omega⟩
      obtain ⟨d0, y0⟩ := B5.reads
      have m0 := B5.lt
      clear c0 z0 c4' z4 hkq B5 hnew hp' hR' hh
      refine (is_any w5 b R' _ H5.out.ring H5.out.ref (fun x hx => by have := H5.out.fit.small x hx; omega)).mono ?_
      rintro e w6 ⟨rfl, hE⟩
      have H6 : Hid (PI w w6 b q p m (k + 1) a4 c4 R') := ⟨H5.out.ring.ext hE, H5.out.box.ext hE, H5.out.res.ext hE, H5.out.ref.ext hE, H5.out.fit, H5.out.ext.ext hE, H5.out.new⟩
      clear hE d0 y0 m0
      go_wp2_with fail
      go_roundw
      case rel => exact ⟨k + 1, a4, c4, rfl, by omega, by go_num, by rw [HSU.out]; exact H6⟩
      case measure => simp [intOf]; omega
    · obtain rfl : k = l.length := by omega
      rw [List.take_length] at hh
      obtain ⟨R, hR⟩ : ∃ R, AR.acts ⟨m, 0, []⟩ l = R := ⟨_, rfl⟩
      rw [hR] at hh
      have HRR := Lib.hid hR
      obtain ⟨c0, z0⟩ := hh.out.box.reads
      have l0 := hh.out.box.lt
      obtain ⟨c1, z1⟩ := hh.out.res.reads
      have l1 := hh.out.res.lt
      clear hR
      go_wp2_with fail
      have hE0 : Keeps NoB wr wr.drew := (Keeps.refl _ _).drew
      refine wp_region_plan [(0, 0), (3, 1), (0, 2), (0, 3)] [] [4, 5] [4, 5] (ClsE wr) (by kernel_rfl) (by kernel_rfl) (by kernel_rfl) rfl rfl (ClsE.of hE0) (fun _ _ _ d _ h => by cases d <;> exact h) ?_; simp only [planL, List.getElem?_toArray, List.getElem?_cons_succ, List.getElem?_cons_zero]
      refine plan_pure rfl (fun K hK => quiet_move' _ rfl (hK _ ?_)); clear hK K; simp only [Act.put, Act.eval, Array.getD_eq_getD_getElem?, List.getElem?_toArray, List.getElem?_cons_zero, List.getElem?_cons_succ, Option.getD_some, List.setIfInBounds_toArray, List.set_cons_zero, List.set_cons_succ]
      refine plan_exact rfl (fun K hK => quiet_runX (v := ?_) ?_ (hK _ ?_)); rotate_left; (go_simp <;> with_reducible rfl); clear hK K; simp only [Act.put, List.setIfInBounds_toArray, List.set_cons_zero, List.set_cons_succ]
      refine plan_pure rfl (fun K hK => quiet_move' _ rfl (hK _ ?_)); clear hK K; simp only [Act.put, Act.eval, Array.getD_eq_getD_getElem?, List.getElem?_toArray, List.getElem?_cons_zero, List.getElem?_cons_succ, Option.getD_some, List.setIfInBounds_toArray, List.set_cons_zero, List.set_cons_succ]
      refine plan_pure rfl (fun K hK => quiet_assign' _ rfl (hK _ ?_)); clear hK K; simp only [Act.put, Act.eval, Array.getD_eq_getD_getElem?, List.getElem?_toArray, List.getElem?_cons_zero, List.getElem?_cons_succ, Option.getD_some, List.setIfInBounds_toArray, List.set_cons_zero, List.set_cons_succ]
      refine plan_nil ?_; simp only [tailL, List.filterMap_cons, List.filterMap_nil, List.getElem?_toArray, List.getElem?_cons_succ, List.getElem?_cons_zero]; change wpList _ _ _ (_ :: _ :: []) _ _
      go_wp2_with fail
      have r1 := (((hh.out.res.set 0 (.int .i64 (R.most : Int))).set 1 (.slice a' R.items.length c')).set 2 (.int .i64 (R.lost : Int))).reads.1
      dsimp only [List.set_cons_zero, List.set_cons_succ] at r1
      clear c0 z0 c1 z1
      have hfin : Keeps (OneB p) wr ((((wr.setCell ⟨p, 0, none⟩ (.int .i64 (R.most : Int))).setCell ⟨p, 1, none⟩ (.slice a' R.items.length c')).setCell ⟨p, 2, none⟩ (.int .i64 (R.lost : Int))).drew) := ((((Keeps.refl _ wr).setOne _ _).setOne _ _).setOne _ _).drew
      have hnew := hh.out.new
      refine bodyPost_ret (v := .tuple #[.pointer (some ⟨b, 0, none⟩), .agg #[.int .i64 (R.most : Int), .slice a' R.items.length c', .int .i64 (R.lost : Int)], .bool true]) (by simp [results, Try.results18, go_sem, r1]) rfl ?_
      unfold PlayedPost
      rw [HRR.out]
      exact ⟨b, _, rfl, (hh.out.ring.keeps hfin (fun k hk => .inr hk) (by unfold OneB; omega)).less (fun k hk => (noB k hk).elim), (hh.out.ref.keeps hfin (fun k _ hk => .inr (.inr hk))).less (fun k hk => .inl hk), hh.out.fit, hnew.1, hh.out.ext.then hfin (fun i hi h => by unfold OneB at h; omega)⟩
end Go.Proofs.Ytocjnieehogcbaa
