/- The document's ring: what append does to a row of items; Take. Conditions: it lies as 'RefV' says. -/
import Derived.Test.YtocjnieehogcbaaRefB
set_option linter.unusedVariables false
set_option maxHeartbeats 400000
namespace Go.Proofs.Ytocjnieehogcbaa
open Go.RowKit

theorem ItemEn.keeps {S A : Nat → Prop} {w w' : World} {c : List Value} {x : It} (h : ItemEn w A c x) (hk : Keeps S w w') (hA : ∀ k, A k → ¬ S k) : ItemEn w' A c x :=
  let ⟨bv, h1, h2⟩ := h
  ⟨bv, h1, h2.keeps hk hA⟩
theorem ItemEn.mono {A A' : Nat → Prop} {w : World} {c : List Value} {x : It} (h : ItemEn w A c x) (hA : ∀ k, A k → A' k) : ItemEn w A' c x :=
  let ⟨bv, h1, h2⟩ := h
  ⟨bv, h1, h2.mono hA⟩
theorem ItemEn.one {A : Nat → Prop} {w : World} {c : List Value} {x : It} (h : ItemEn w A c x) : ∀ u ∈ c, u.oneCell' = true := by
  obtain ⟨bv, rfl, hb⟩ := h
  obtain ⟨a, n, rfl⟩ := hb.len
  intro u hu
  simp at hu
  rcases hu with rfl | rfl | rfl <;> rfl
theorem ItemAt.en {A : Nat → Prop} {w : World} {b o : Nat} {x : It} (h : ItemAt w A b o x) : ∃ c, ItemEn w A c x ∧ c.length = 3 ∧ ∀ j, j < 3 → w.cell? ⟨b, o + j, none⟩ = c[j]? := by
  obtain ⟨i1, i2, bv, i3, i4⟩ := h
  refine ⟨_, ⟨bv, rfl, i4⟩, rfl, fun j hj => ?_⟩
  match j, hj with
  | 0, _ => exact i1
  | 1, _ => exact i2
  | 2, _ => exact i3
theorem items_row {A : Nat → Prop} {w : World} {v : Value} {l : List It} (h : SlV A (ItemAt w A) 3 v l) : ∃ cs, RowOf 3 (ItemEn w A) cs l ∧ SrcCells w v l.length cs :=
  SlV.row h fun b o x _ hx => hx.en

/-- append(l, x...) of items -/
theorem append_items {A : Nat → Prop} (w : World) (base : Nat) (v : Value) (cs : List Value) (l : List It) (ty : TypeId) (hw : Win w base 3 v l.length cs) (x : Value) (news : List Value) (l' : List It) (hsrc : SrcCells w x l'.length news) (hr' : RowOf 3 (ItemEn w A) news l')
    (hl : l.length + l'.length ≤ 1000000) (hb : base ≤ w.heap.size) :
    ∃ v' w', (Builtin.append_ #[46, 46] ty #[v, x]).run Try.prog w = .ok v' w' ∧ Win w' base 3 v' (l ++ l').length (cs ++ news) ∧ Keeps (Own v) w w' ∧ (v'.ownBlock = v.ownBlock ∨ v'.ownBlock = some w.heap.size) := by
  obtain ⟨i0, hi, hz0, hz1, hz2⟩ := info_parts infoItem
  obtain ⟨v', w', h1, h2, h3, h4⟩ := run_append_win (P := Try.prog) w base 46 46 ty 31 i0 _ 3 40 Try.underlying46 hi hz0 hz1 hz2 rfl v l.length cs hw
    x l'.length news (hsrc.toSrc Try.underlying46 hr'.length (hr'.all fun c x hc => hc.one)) (by simp [maxLen]; omega) (by omega) hb
  exact ⟨v', w', h1, by rw [List.length_append]; exact h2, h3, h4⟩
/-- append([]byte{}, b...) -/
theorem append_bytes {A : Nat → Prop} (w : World) (base : Nat) (v : Value) (cs : List UInt8) (ty : TypeId) (hw : Win w base 1 v cs.length (cs.map byV)) (x : Value) (l : List UInt8) (hx : Bytes w A x l) (hl : cs.length + l.length ≤ 70368744177664) (hb : base ≤ w.heap.size) :
    ∃ v' w', (Builtin.append_ #[29, 29] ty #[v, x]).run Try.prog w = .ok v' w' ∧ Win w' base 1 v' (cs ++ l).length ((cs ++ l).map byV) ∧ Keeps (Own v) w w' ∧ (v'.ownBlock = v.ownBlock ∨ v'.ownBlock = some w.heap.size) := by
  obtain ⟨i0, hi, hz0, hz1, hz2⟩ := info_parts infoU8
  obtain ⟨v', w', h1, h2, h3, h4⟩ := run_append_win (P := Try.prog) w base 29 29 ty 5 i0 _ 1 1 Try.underlying29 hi hz0 hz1 hz2 rfl v cs.length (cs.map byV) hw
    x l.length (l.map byV) (hx.src.toSrc Try.underlying29 (by simp) (byV_one l)) (by simp [maxLen]; omega) (by omega) hb
  exact ⟨v', w', h1, by rw [List.length_append, List.map_append]; exact h2, h3, h4⟩
theorem byV_flat (l : List UInt8) : l.map byV = (l.map fun x => [byV x]).flatten := by
  induction l with
  | nil => rfl
  | cons x l ih => simp [ih]
theorem Bytes.of_win {w : World} {base n : Nat} {v : Value} {l : List UInt8} (h : Win w base 1 v n (l.map byV)) : Bytes w (fun b => base ≤ b ∧ b < w.heap.size) v l := by
  have hn : l.length = n := by have := h.1; simpa using this
  refine SlV.of_win (En := fun c (x : UInt8) => c = [byV x]) h hn.symm ⟨l.map fun x => [byV x], byV_flat l, by simp, fun j hj hj' => by simp⟩ ?_
  intro b o c x hc _ hx
  subst hc
  exact hx 0 (by decide)
theorem items_of_win {w : World} {A A' : Nat → Prop} {base n : Nat} {v : Value} {cs : List Value} {l : List It} (h : Win w base 3 v n cs) (hn : n = l.length) (hr : RowOf 3 (ItemEn w A) cs l) (hA : ∀ k, A k → A' k) (hB : ∀ k, base ≤ k → k < w.heap.size → A' k) : SlV A' (ItemAt w A') 3 v l :=
  SlV.mono (SlV.of_win (At := ItemAt w A') h hn hr fun b o c x hc hl hcc => hc.at hA b o c x hl hcc) (fun k hk => hB k hk.1 hk.2) fun _ _ _ _ h => h

theorem own_eq {g o n c k : Nat} (h : Own (.slice (some ⟨g, o, none⟩) n c) k) : k = g := by unfold Own at h; cases h; rfl
theorem rtake_none {A : Nat → Prop} (w : World) (v : Value) (m l : Nat) (h : RefV w A v ⟨m, l, []⟩) :
    Calls Try.prog 43 #[v] w fun e w' => e = .returned (.tuple #[v, .agg #[.bool false, .int .i64 0, .slice none 0 0], .bool false]) ∧ Ext w w' := by
  obtain ⟨sv, rfl, hs⟩ := h
  obtain ⟨a, c, rfl, -⟩ := hs.itAt
  simp only [List.length_nil]
  clear hs
  go_enter Try.func43, Try.ntmps43
  go_wp2_with fail
  refine bodyPost_ret (v := .tuple #[.agg #[.int .i64 (m : Int), .slice a 0 c, .int .i64 (l : Int)], .agg #[.bool false, .int .i64 0, .slice none 0 0], .bool false]) (by simp [results, Try.results43, go_sem]) rfl ⟨rfl, ?_⟩
  repeat (first | exact Keeps.refl _ _ | refine Keeps.alloc ?_ _ | refine Keeps.setNew ?_ _ _ (by simp; done))

theorem rtake_some {A : Nat → Prop} (w : World) (v : Value) (m l : Nat) (x : It) (r : List It) (h : RefV w A v ⟨m, l, x :: r⟩) (hl : r.length ≤ 1000) (hA : ∀ k, A k → k < w.heap.size) :
    Calls Try.prog 43 #[v] w fun e w' =>
      ∃ v' vx, e = .returned (.tuple #[v', vx, .bool true]) ∧ RefV w' (fun k => A k ∨ (w.heap.size ≤ k ∧ k < w'.heap.size)) v' ⟨m, l, r⟩ ∧ ItemV w' A vx x ∧ Ext w w' := by
  obtain ⟨sv, rfl, hs⟩ := h
  have HS := Lib.hid hs
  obtain ⟨a, c, rfl, hat⟩ := hs.itAt
  obtain ⟨b, o, rfl, hc, hAb, i1, i2, bv, i3, i4⟩ := hat 0 (by simp)
  simp only [List.length_cons] at hc
  dsimp only [List.getElem_cons_zero] at i1 i2 i3 i4
  have hbl := hA b hAb
  have HA := Lib.hid hA
  have HI := Lib.hid i4
  obtain ⟨a4, c4, rfl⟩ := i4.len
  have hz : (((r.length : Int) + 1) == 0) = false := by rw [beq_eq_false_iff_ne]; omega
  clear hs hat hA i4
  simp only [List.length_cons]
  go_enter Try.func43, Try.ntmps43
  go_wp2_with fail
  have by0 := (((Box.new w 48 [.int .i64 (m : Int), .slice (some ⟨b, o, none⟩) (r.length + 1) c, .int .i64 (l : Int)]).alloc (Obj.cells #[.int .i64 0, .slice none 0 0, .int .i64 0] 48)).alloc (Obj.cells #[.bool false, .int .i64 0, .slice none 0 0] 31))
  have by1 := ((Box.new (w.alloc (Obj.cells #[.int .i64 (m : Int), .slice (some ⟨b, o, none⟩) (r.length + 1) c, .int .i64 (l : Int)] 48)) 48 [.int .i64 0, .slice none 0 0, .int .i64 0]).alloc (Obj.cells #[.bool false, .int .i64 0, .slice none 0 0] 31))
  have by2 := (Box.new ((w.alloc (Obj.cells #[.int .i64 (m : Int), .slice (some ⟨b, o, none⟩) (r.length + 1) c, .int .i64 (l : Int)] 48)).alloc (Obj.cells #[.int .i64 0, .slice none 0 0, .int .i64 0] 48)) 31 [.bool false, .int .i64 0, .slice none 0 0])
  have ey : Ext w (((w.alloc (Obj.cells #[.int .i64 (m : Int), .slice (some ⟨b, o, none⟩) (r.length + 1) c, .int .i64 (l : Int)] 48)).alloc (Obj.cells #[.int .i64 0, .slice none 0 0, .int .i64 0] 48)).alloc (Obj.cells #[.bool false, .int .i64 0, .slice none 0 0] 31)) := ((((Keeps.refl NoB w).alloc _).alloc _).alloc _)
  have sy : (((w.alloc (Obj.cells #[.int .i64 (m : Int), .slice (some ⟨b, o, none⟩) (r.length + 1) c, .int .i64 (l : Int)] 48)).alloc (Obj.cells #[.int .i64 0, .slice none 0 0, .int .i64 0] 48)).alloc (Obj.cells #[.bool false, .int .i64 0, .slice none 0 0] 31)).heap.size = w.heap.size + 3 := by simp
  simp only [World.size_alloc] at by1 by2
  generalize (((w.alloc (Obj.cells #[.int .i64 (m : Int), .slice (some ⟨b, o, none⟩) (r.length + 1) c, .int .i64 (l : Int)] 48)).alloc (Obj.cells #[.int .i64 0, .slice none 0 0, .int .i64 0] 48)).alloc (Obj.cells #[.bool false, .int .i64 0, .slice none 0 0] 31)) = w0 at by0 by1 by2 ey sy ⊢
  have Sy := Lib.hid sy
  clear sy
  obtain ⟨c0, z0⟩ := by0.reads
  obtain ⟨c1, z1⟩ := by1.reads
  obtain ⟨c2, z2⟩ := by2.reads
  have l0 := by0.lt
  have l1 := by1.lt
  have l2 := by2.lt
  have j1 := Ext.cell ey i1
  have j2 := Ext.cell ey i2
  have j3 := Ext.cell ey i3
  have hb0 : b < w0.heap.size := by omega
  have HE := Lib.hid ey
  clear i1 i2 i3
  simp only [Nat.zero_mul, Nat.add_zero] at j1 j2 j3
  have hbn : ¬ (b = w.heap.size + 1) := by omega
  have h1n : (1 : Int) ≤ (r.length : Int) + 1 := by omega
  have hsl := HS.out.drop 1 (by simp)
  simp only [List.length_cons, Nat.add_sub_cancel, List.drop_succ_cons, List.drop_zero, Nat.one_mul] at hsl
  obtain ⟨sp, hsp⟩ : ∃ sp : Option Addr, (if c = 1 then some (⟨b, o, none⟩ : Addr) else some ⟨b, o + 3, none⟩) = sp := ⟨_, rfl⟩
  rw [hsp] at hsl
  have HT := Lib.hid hsl
  clear hsl
  have hE0 : Keeps (OneB (w.heap.size + 1)) w0 w0.drew := (Keeps.refl _ _).drew
  refine wp_region_plan [(0, 0), (1, 1), (0, 3), (1, 4), (0, 5), (0, 7), (1, 8), (0, 10), (1, 11), (0, 12), (1, 13), (2, 2), (2, 6), (0, 9), (2, 14)] [1, 4, 8, 11, 13] [2, 6, 14, 15, 16] [15, 16] (ClsK (OneB (w.heap.size + 1)) w0) (by kernel_rfl) (by kernel_rfl) (by kernel_rfl) rfl rfl (ClsK.of hE0) (fun _ _ _ d _ h => by cases d <;> exact h) ?_; simp only [planL, List.getElem?_toArray, List.getElem?_cons_succ, List.getElem?_cons_zero]
  refine plan_pure rfl (fun K hK => quiet_run (v := ?_) (fun W _ => ?_) (hK _ ?_)); rotate_left; (go_simp <;> with_reducible rfl); clear hK K; simp only [Act.put, List.setIfInBounds_toArray, List.set_cons_zero, List.set_cons_succ]
  refine plan_load rfl (fun K hK => quiet_runK (v := ?_) (fun W => ?_) (hK _ ?_)); rotate_left; (go_simp <;> with_reducible rfl); clear hK K; simp only [Act.put, List.setIfInBounds_toArray, List.set_cons_zero, List.set_cons_succ]
  refine plan_pure rfl (fun K hK => quiet_run (v := ?_) (fun W _ => ?_) (hK _ ?_)); rotate_left; (go_simp <;> with_reducible rfl); clear hK K; simp only [Act.put, List.setIfInBounds_toArray, List.set_cons_zero, List.set_cons_succ]
  refine plan_load rfl (fun K hK => quiet_runK (v := ?_) (fun W => ?_) (hK _ ?_)); rotate_left; (go_simp <;> with_reducible rfl); clear hK K; simp only [Act.put, List.setIfInBounds_toArray, List.set_cons_zero, List.set_cons_succ]
  refine plan_pure rfl (fun K hK => quiet_run (v := ?_) (fun W _ => ?_) (hK _ ?_)); rotate_left; (go_simp <;> with_reducible rfl); clear hK K; simp only [Act.put, List.setIfInBounds_toArray, List.set_cons_zero, List.set_cons_succ]
  refine plan_pure rfl (fun K hK => quiet_run (v := ?_) (fun W _ => ?_) (hK _ ?_)); rotate_left; (go_simp <;> with_reducible rfl); clear hK K; simp only [Act.put, List.setIfInBounds_toArray, List.set_cons_zero, List.set_cons_succ]
  refine plan_load rfl (fun K hK => quiet_runK (v := ?_) (fun W => ?_) (hK _ ?_)); rotate_left; (go_simp <;> with_reducible rfl); clear hK K; simp only [Act.put, List.setIfInBounds_toArray, List.set_cons_zero, List.set_cons_succ]
  refine plan_pure rfl (fun K hK => quiet_run (v := ?_) (fun W _ => ?_) (hK _ ?_)); rotate_left; (go_simp <;> with_reducible rfl); clear hK K; simp only [Act.put, List.setIfInBounds_toArray, List.set_cons_zero, List.set_cons_succ]
  refine plan_load rfl (fun K hK => quiet_runK (v := ?_) (fun W => ?_) (hK _ ?_)); rotate_left; (go_simp <;> with_reducible rfl); clear hK K; simp only [Act.put, List.setIfInBounds_toArray, List.set_cons_zero, List.set_cons_succ]
  refine plan_pure rfl (fun K hK => quiet_run (v := ?_) (fun W _ => ?_) (hK _ ?_)); rotate_left; (go_simp <;> with_reducible rfl); clear hK K; simp only [Act.put, List.setIfInBounds_toArray, List.set_cons_zero, List.set_cons_succ]
  refine plan_load rfl (fun K hK => quiet_runK (v := ?_) (fun W => ?_) (hK _ ?_)); rotate_left; (go_simp <;> with_reducible rfl); clear hK K; simp only [Act.put, List.setIfInBounds_toArray, List.set_cons_zero, List.set_cons_succ]
  refine plan_does rfl (fun K hK => ?_)
  go_wp2_with fail
  refine ⟨ClsK.of (Keeps.alloc (by assumption) _), ?_⟩; try simp only [Act.put, List.setIfInBounds_toArray, List.set_cons_zero, List.set_cons_succ]
  refine plan_does rfl (fun K hK => ?_)
  have hk0 : Ext w0 ((w0.alloc (Obj.cells #[] 31)).drew) := ((Keeps.refl _ _).alloc _).drew
  obtain ⟨cs, hrow, hsrc⟩ := items_row ((HT.out.itExt HE.out).itExt hk0)
  obtain ⟨v1, w1, hr1, hwin1, hk1, ho1⟩ := append_items (A := A) _ w0.heap.size _ [] [] 46 (Win.empty (Nat.le_refl _) (by simp)) _ cs r hsrc hrow (by simp; omega) (by simp)
  have hK1 : Keeps (OneB (w.heap.size + 1)) w0 w1 := (Ext.keeps hk0).then hk1 (fun i hi h2 => by have := own_eq h2; omega)
  obtain ⟨a1, d1, rfl⟩ := hwin1.len
  have hE1 : Ext w0 w1 := hk0.then hk1 (fun i hi h2 => by have := own_eq h2; omega)
  have HW1 := Lib.hid hwin1
  have HR1 := Lib.hid (hrow.mono fun c x h => h.keeps hk1 (fun k hk h2 => by have := HA.out k hk; have := own_eq h2; omega))
  obtain ⟨c11, z11⟩ := (by1.ext hE1).reads
  obtain ⟨c12, z12⟩ := (by2.ext hE1).reads
  have l11 := (by1.ext hE1).lt
  have l12 := (by2.ext hE1).lt
  refine oper_append_ran _ _ hr1 rfl rfl rfl ?_
  clear hrow hsrc hr1 hk1 ho1 hk0 hwin1
  refine hK _ _ ⟨ClsK.of (by assumption), ?_⟩; clear hK K; try simp only [Act.put, List.setIfInBounds_toArray, List.set_cons_zero, List.set_cons_succ]
  refine plan_pure rfl (fun K hK => quiet_run (v := ?_) (fun W _ => ?_) (hK _ ?_)); rotate_left; (go_simp <;> with_reducible rfl); clear hK K; simp only [Act.put, List.setIfInBounds_toArray, List.set_cons_zero, List.set_cons_succ]
  refine plan_does rfl (fun K hK => ?_)
  go_wp2_with fail
  refine ⟨ClsK.of (by repeat (first | assumption | exact Keeps.refl _ _ | refine Keeps.setOne ?_ _ _ | refine Keeps.setCell ?_ _ _ (.inl (by first | rfl | exact .inl rfl | exact .inr rfl | omega)) | refine Keeps.drew ?_)), ?_⟩; try simp only [Act.put]
  refine plan_nil ?_; simp only [tailL, List.filterMap_cons, List.filterMap_nil, List.getElem?_toArray, List.getElem?_cons_succ, List.getElem?_cons_zero]; change wpList _ _ _ (_ :: _ :: []) _ _
  go_wp2_with fail
  have b1 := (((((((by1.ext hE1).set 0 (.int .i64 (m : Int))).set 1 (.slice a1 r.length d1)).set 2 (.int .i64 (l : Int))).other ⟨w.heap.size + 1 + 1, 0, none⟩ (.bool x.side) (by simp)).other ⟨w.heap.size + 1 + 1, 1, none⟩ (.int .i64 x.key) (by simp)).other ⟨w.heap.size + 1 + 1, 2, none⟩ (.slice a4 x.bytes.length c4) (by simp))
  have b2 := (((((((by2.ext hE1).other ⟨w.heap.size + 1, 0, none⟩ (.int .i64 (m : Int)) (by simp)).other ⟨w.heap.size + 1, 1, none⟩ (.slice a1 r.length d1) (by simp)).other ⟨w.heap.size + 1, 2, none⟩ (.int .i64 (l : Int)) (by simp)).set 0 (.bool x.side)).set 1 (.int .i64 x.key)).set 2 (.slice a4 x.bytes.length c4))
  dsimp only [List.set_cons_zero, List.set_cons_succ] at b1 b2
  have r1 := b1.reads.1
  have r2 := b2.reads.1
  have hS : Keeps (fun k => k = w.heap.size + 1 ∨ k = w.heap.size + 1 + 1) w1 ((((((w1.setCell ⟨w.heap.size + 1, 0, none⟩ (.int .i64 (m : Int))).setCell ⟨w.heap.size + 1, 1, none⟩ (.slice a1 r.length d1)).setCell ⟨w.heap.size + 1, 2, none⟩ (.int .i64 (l : Int))).setCell ⟨w.heap.size + 1 + 1, 0, none⟩ (.bool x.side)).setCell ⟨w.heap.size + 1 + 1, 1, none⟩ (.int .i64 x.key)).setCell ⟨w.heap.size + 1 + 1, 2, none⟩ (.slice a4 x.bytes.length c4)) :=
    ((((((Keeps.refl _ w1).setCell _ _ (.inl (.inl rfl))).setCell _ _ (.inl (.inl rfl))).setCell _ _ (.inl (.inl rfl))).setCell _ _ (.inl (.inr rfl))).setCell _ _ (.inl (.inr rfl))).setCell _ _ (.inl (.inr rfl))
  clear c0 c1 c2 c11 c12 z0 z1 z2 z11 z12 j1 j2 j3
  refine bodyPost_ret (v := .tuple #[.agg #[.int .i64 (m : Int), .slice a1 r.length d1, .int .i64 (l : Int)], .agg #[.bool x.side, .int .i64 x.key, .slice a4 x.bytes.length c4], .bool true]) (by simp [results, Try.results43, go_sem, r1, r2]) rfl ⟨_, _, rfl, ?_, ?_, ?_⟩
  · have hw1 := HW1.out
    simp only [List.nil_append] at hw1
    have h1 := items_of_win (A' := fun k => A k ∨ (w0.heap.size ≤ k ∧ k < w1.heap.size)) hw1 rfl HR1.out (fun _ h => .inl h) (fun k h h' => .inr ⟨h, h'⟩)
    have h2 := h1.itKeeps hS (fun k hk h2 => by
      rcases hk with hk | hk
      · have := HA.out k hk; omega
      · omega)
    refine ⟨_, rfl, h2.itMono fun k hk => ?_⟩
    rcases hk with hk | hk
    · exact .inl hk
    · have := hS.size; have := HE.out.size; exact .inr ⟨by omega, by omega⟩
  · refine ⟨_, rfl, ?_⟩
    exact (((HI.out.ext HE.out).ext hE1).keeps hS fun k hk h2 => by have := HA.out k hk; omega)
  · exact (HE.out.ext hE1).then hS fun i hi h2 => by omega
end Go.Proofs.Ytocjnieehogcbaa
