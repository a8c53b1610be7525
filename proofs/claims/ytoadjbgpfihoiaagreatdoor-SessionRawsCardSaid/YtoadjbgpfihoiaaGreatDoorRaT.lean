/- Texts RefE, one behind the other. Conditions: as each says. -/
import Derived.Test.YtoadjbgpfihoiaaGreatDoorRaS
set_option linter.unusedVariables false
set_option linter.unusedSimpArgs false
set_option maxHeartbeats 8000000
set_option maxRecDepth 100000
namespace Go.Proofs.YtoadjbgpfihoiaaGreatDoor
open Go.RowKit
section
theorem rput_fin {A A5 : Nat → Prop} {w w5 : World} {base q most lost : Nat} {v : Value} {cs : List Value} {items : List It} {z0 z1 z2 : Value} (hwin : Win w5 base 3 v items.length cs) (hrow : RowOf 3 (ItemEn w5 A5) cs items) (hE : Ext w w5) (hq : w.heap.size ≤ q) (hqb : q < base) (hbase : w.heap.size ≤ base)
 (hA5 : ∀ k, A5 k → k ≠ q ∧ (A k ∨ (w.heap.size ≤ k ∧ k < w5.heap.size))) :
 RefV (((w5.setCell ⟨q, 0, none⟩ z0).setCell ⟨q, 1, none⟩ z1).setCell ⟨q, 2, none⟩ z2) (fun k => A k ∨ (w.heap.size ≤ k ∧ k < (((w5.setCell ⟨q, 0, none⟩ z0).setCell ⟨q, 1, none⟩ z1).setCell ⟨q, 2, none⟩ z2).heap.size)) (.agg #[.int .i64 (most : Int), v, .int .i64 (lost : Int)]) ⟨most, lost, items⟩ ∧
  Ext w (((w5.setCell ⟨q, 0, none⟩ z0).setCell ⟨q, 1, none⟩ z1).setCell ⟨q, 2, none⟩ z2) := by
 have hk : Keeps (OneB q) w5 (((w5.setCell ⟨q, 0, none⟩ z0).setCell ⟨q, 1, none⟩ z1).setCell ⟨q, 2, none⟩ z2) := (((Keeps.refl (OneB q) w5).setOne _ _).setOne _ _).setOne _ _
 refine ⟨⟨v, rfl, ?_⟩, hE.then hk fun i hi h => by unfold OneB at h; omega⟩
 have h1 := items_of_win (A' := fun k => k ≠ q ∧ (A k ∨ (w.heap.size ≤ k ∧ k < w5.heap.size))) hwin rfl hrow hA5 (fun k h h' => ⟨by omega, .inr ⟨by omega, h'⟩⟩)
 refine (h1.itKeeps hk (fun k hk h => hk.1 (by unfold OneB at h; exact h))).itMono fun k hk' => ?_
 rcases hk'.2 with h | h
 · exact .inl h
 · have := hk.size; exact .inr ⟨h.1, by omega⟩
set_option maxHeartbeats 2000000 in
theorem rput_main {A B : Nat → Prop} (w : World) (v vx : Value) (R : AR) (key : Int) (xb : List UInt8) (h : RefV w A v R) (hv : ItemV w B vx ⟨false, 0, xb⟩) (hl : R.items.length ≤ 1000) (hm : R.most ≤ 1000) (hlost : R.lost ≤ 1000000) (hx : xb.length ≤ 1024)
 (hA : ∀ k, A k → k < w.heap.size) (hB : ∀ k, B k → k < w.heap.size) (h33 : R.items.findIdx? (p33 ⟨false, 0, xb⟩) = none) :
 Calls Tryz.prog 86 #[v, vx] w (RPutPost w A R ⟨false, 0, xb⟩) := by
 have hf33 : false = true → findI (pside false 0) R.items = -1 := fun hh => by
  unfold findI; rw [← pside_p33 ⟨false, 0, xb⟩ hh, h33]
 have H33 := Lib.hid h33
 have F33 := Lib.hid hf33
 clear h33 hf33
 have HR := Lib.hid h
 obtain ⟨sv, rfl, hs⟩ := h
 obtain ⟨a, c, rfl, -⟩ := hs.itAt
 obtain ⟨bx, rfl, hb⟩ := hv
 obtain ⟨a2, c2, rfl⟩ := hb.len
 have HS := Lib.hid hs
 have HA := Lib.hid hA
 have HB := Lib.hid hB
 dsimp only at hb ⊢
 have hng : ¬ (1024 < (xb.length : Int)) := by omega
 have e0 : Ext w ((((w.alloc (Obj.cells #[.int .i64 (R.most : Int), .slice a R.items.length c, .int .i64 (R.lost : Int)] 71)).alloc (Obj.cells #[.bool false, .int .i64 0, .slice a2 xb.length c2] 152)).alloc (Obj.cells #[.int .i64 0, .slice none 0 0, .int .i64 0] 71)).alloc (Obj.cells #[] 5)) := ((((Keeps.refl _ _).alloc _).alloc _).alloc _).alloc _
 obtain ⟨v1, w1, hr1, hwin1, hk1, ho1⟩ := append_bytes ((((w.alloc (Obj.cells #[.int .i64 (R.most : Int), .slice a R.items.length c, .int .i64 (R.lost : Int)] 71)).alloc (Obj.cells #[.bool false, .int .i64 0, .slice a2 xb.length c2] 152)).alloc (Obj.cells #[.int .i64 0, .slice none 0 0, .int .i64 0] 71)).alloc (Obj.cells #[] 5)) (w.heap.size + 1 + 1 + 1) (.slice (some ⟨w.heap.size + 1 + 1 + 1, 0, none⟩) 0 0) [] 27 (Win.empty (Nat.le_refl _) (by simp)) _ xb (hb.ext e0) (by simp; omega) (by simp)
 simp only [List.nil_append] at hwin1
 obtain ⟨a1, d1, rfl⟩ := hwin1.len
 have e1 : Ext w w1 := e0.then hk1 (fun i hi h2 => by have := own_eq h2; omega)
 have b0 := ((((Box.new w 71 [.int .i64 (R.most : Int), .slice a R.items.length c, .int .i64 (R.lost : Int)]).alloc (Obj.cells #[.bool false, .int .i64 0, .slice a2 xb.length c2] 152)).alloc (Obj.cells #[.int .i64 0, .slice none 0 0, .int .i64 0] 71)).alloc (Obj.cells #[] 5)).keeps hk1 (fun h2 => by have := own_eq h2; omega)
 have b1 := (((Box.new (w.alloc (Obj.cells #[.int .i64 (R.most : Int), .slice a R.items.length c, .int .i64 (R.lost : Int)] 71)) 152 [.bool false, .int .i64 0, .slice a2 xb.length c2]).alloc (Obj.cells #[.int .i64 0, .slice none 0 0, .int .i64 0] 71)).alloc (Obj.cells #[] 5)).keeps hk1 (fun h2 => by have := own_eq h2; simp at this)
 have b2 := ((Box.new ((w.alloc (Obj.cells #[.int .i64 (R.most : Int), .slice a R.items.length c, .int .i64 (R.lost : Int)] 71)).alloc (Obj.cells #[.bool false, .int .i64 0, .slice a2 xb.length c2] 152)) 71 [.int .i64 0, .slice none 0 0, .int .i64 0]).alloc (Obj.cells #[] 5)).keeps hk1 (fun h2 => by have := own_eq h2; simp at this)
 simp only [World.size_alloc] at b1 b2
 obtain ⟨c0, z0⟩ := b0.reads
 obtain ⟨c1, z1⟩ := b1.reads
 obtain ⟨q2, z2⟩ := b2.reads
 have l0 := b0.lt
 have l1 := b1.lt
 have l2 := b2.lt
 have eS : Ext w ((w1.setCell ⟨w.heap.size + 1, 2, none⟩ (.slice a1 xb.length d1)).alloc (Obj.cells #[] 152)) := (e1.setNew _ _ (by simp)).alloc _
 obtain ⟨cs, hrow, hsrc⟩ := items_row (hs.itExt eS)
 obtain ⟨v3, w3, hr3, hwin3, hk3, ho3⟩ := append_items (A := A) _ w1.heap.size (.slice (some ⟨w1.heap.size, 0, none⟩) 0 0) [] [] 69 (Win.empty (Nat.le_refl _) (by simp [World.setCell])) _ cs R.items hsrc hrow (by simp; omega) (by simp [World.setCell])
 simp only [List.nil_append] at hwin3
 obtain ⟨a3, d3, rfl⟩ := hwin3.len
 have b30 := ((b0.other ⟨w.heap.size + 1, 2, none⟩ (.slice a1 xb.length d1) (by simp)).alloc (Obj.cells #[] 152)).keeps hk3 (fun h2 => by have := own_eq h2; omega)
 have b31 := ((b1.set 2 (.slice a1 xb.length d1)).alloc (Obj.cells #[] 152)).keeps hk3 (fun h2 => by have := own_eq h2; omega)
 have b32 := ((b2.other ⟨w.heap.size + 1, 2, none⟩ (.slice a1 xb.length d1) (by simp)).alloc (Obj.cells #[] 152)).keeps hk3 (fun h2 => by have := own_eq h2; omega)
 dsimp only [List.set_cons_zero, List.set_cons_succ] at b31
 have e3 : Ext w w3 := eS.then hk3 (fun i hi h2 => by have := own_eq h2; omega)
 have hk13 : Keeps (fun k => k = w.heap.size + 1 ∨ k = w1.heap.size) w1 w3 := ((((Keeps.refl _ w1).setCell ⟨w.heap.size + 1, 2, none⟩ (.slice a1 xb.length d1) (.inl (.inl rfl)))).alloc (Obj.cells #[] 152)).then hk3 (fun i hi h2 => .inr (own_eq h2))
 have hby3 := (Bytes.of_win hwin1).keeps hk13 (fun k hk h2 => by have h3 := hk.1; have h4 := hk.2; rcases h2 with h2 | h2 <;> omega)
 have hrow3 := hrow.mono (En' := ItemEn w3 A) fun c x h => h.keeps hk3 (fun k hk h2 => by have := HA.out k hk; have := own_eq h2; omega)
 obtain ⟨c30, z30⟩ := b30.reads
 obtain ⟨c31, z31⟩ := b31.reads
 obtain ⟨c32, z32⟩ := b32.reads
 have l30 := b30.lt
 have l31 := b31.lt
 have l32 := b32.lt
 have HE3 := Lib.hid e3
 have HBY := Lib.hid hby3
 have HRO3 := Lib.hid hrow3
 have HK13 := Lib.hid hk13
 have BB0 := Lib.hid b30
 have BB1 := Lib.hid b31
 have BB2 := Lib.hid b32
 have HW1 := Lib.hid hwin1
 have HW3 := Lib.hid hwin3
 have HK3 := Lib.hid hk3
 have HRO := Lib.hid hrow
 have B0 := Lib.hid b0
 have B1 := Lib.hid b1
 have B2 := Lib.hid b2
 have HE1 := Lib.hid e1
 clear hs hb hA hB hwin1 hk1 ho1 e0 e1 hwin3 hk3 ho3 hrow hsrc b0 b1 b2 eS b30 b31 b32 e3 hk13 hby3 hrow3
 go_enter Tryz.func86, Tryz.ntmps86
 go_wp2_with (at_builtin; first | refine wpList_append_ran rfl _ _ hr1 rfl rfl rfl ?_ | refine wpList_append_ran rfl _ _ hr3 rfl rfl rfl ?_)
 refine (rside_any (A := A) w3 _ R false 0 (HR.out.ext HE3.out) hl (fun k hk => Nat.lt_of_lt_of_le (HA.out k hk) HE3.out.size)).mono ?_
 rintro e w4 ⟨rfl, hE4⟩
 obtain ⟨fi, hfi⟩ : ∃ fi, findI (pside false 0) R.items = fi := ⟨_, rfl⟩
 rw [hfi]
 have hfi' : false = true → fi = -1 := fun hh => by rw [← hfi]; have F := F33.out; first | exact F hh | exact F | simpa using F
 clear hfi
 first
  | (obtain rfl : fi = -1 := hfi' rfl; clear hfi')
  | clear hfi'
 have HE34 := Lib.hid hE4
 have HE4 := Lib.hid (HE3.out.ext hE4)
 have B40 := Lib.hid (BB0.out.ext hE4)
 have B41 := Lib.hid (BB1.out.ext hE4)
 have B42 := Lib.hid (BB2.out.ext hE4)
 obtain ⟨c40, z40⟩ := B40.out.reads
 obtain ⟨c41, z41⟩ := B41.out.reads
 obtain ⟨c42, z42⟩ := B42.out.reads
 have l40 := B40.out.lt
 have l41 := B41.out.lt
 have l42 := B42.out.lt
 have HW4 := Lib.hid (HW3.out.ext hE4)
 have HRO4 := Lib.hid (HRO3.out.mono (En' := ItemEn w4 A) fun c x h => h.keeps hE4 (fun _ _ => noB _))
 have HBY4 := Lib.hid (HBY.out.ext hE4)
 have hb14 : w1.heap.size ≤ w4.heap.size := by have h1 := hE4.size; have h2 := HK13.out.size; omega
 have s0 : ¬ (w.heap.size + 1 + 1 ≤ w.heap.size) := by omega
 have s1 : ¬ (w.heap.size + 1 + 1 ≤ w.heap.size + 1) := by omega
 have gl : IntKind.i64.wrap ((R.lost : Int) + 1) = (R.lost : Int) + 1 := by rw [IntWalk.i64_in _ (by omega)]
 clear hE4 c0 c1 q2 z0 z1 z2 c30 c31 c32 z30 z31 z32 hr1 hr3
 by_cases hroom : R.items.length < R.most
 · have hput : R.put ⟨false, 0, xb⟩ = ({ R with items := R.items ++ [⟨false, 0, xb⟩] }, 0, 0) := by
    unfold AR.put
    rw [if_neg (by simp), if_neg (by dsimp only; omega), H33.out]
    dsimp only
    rw [if_pos hroom]
   have HP := Lib.hid hput
   clear hput
   go_wp2_with fail
   have hE0 : Keeps (fun k => w.heap.size + 1 + 1 ≤ k) w4 w4.drew := (Keeps.refl _ _).drew
   refine wp_region_plan [(0, 0), (1, 1), (0, 2), (3, 3), (0, 6), (1, 7), (2, 4), (2, 5), (0, 8)] [1, 7] [4, 5, 9, 10, 11] [9, 10, 11] (ClsK (fun k => w.heap.size + 1 + 1 ≤ k) w4) (by kernel_rfl) (by kernel_rfl) (by kernel_rfl) rfl rfl (ClsK.of hE0) (fun _ _ _ d _ h => by cases d <;> exact h) ?_; simp only [planL, nL]
   iterate 6 (first | (refine pM _ rfl rfl ?_; simp only [nP, nE]) | (refine pR (by rfl) (fun W => by go_simp <;> with_reducible rfl) ?_; simp only [nP]) | (refine pX (by rfl) (by go_simp <;> with_reducible rfl) ?_; simp only [nP]) | (refine pK (by rfl) (fun W => by go_simp <;> with_reducible rfl) ?_; simp only [nP]))
   refine plan_does rfl (fun K hK => ?_)
   go_wp2_with fail
   refine ⟨ClsK.of (by repeat (first | assumption | exact Keeps.refl _ _ | refine Keeps.alloc ?_ _ | refine Keeps.setOne ?_ _ _ | refine Keeps.setCell ?_ _ _ (.inl (by first | rfl | exact .inl rfl | exact .inr rfl | omega)) | refine Keeps.drew ?_)), ?_⟩; try simp only [nP]
   refine plan_does rfl (fun K hK => ?_)
   have hk0 : Ext w4 ((w4.alloc (Obj.cells #[.bool false, .int .i64 0, .slice a1 xb.length d1] 152)).drew) := ((Keeps.refl _ _).alloc _).drew
   obtain ⟨v5, wZ, hr5, hwin5, hk5, ho5⟩ := append_items (A := fun k => w.heap.size + 1 + 1 + 1 ≤ k ∧ k < w1.heap.size) ((w4.alloc (Obj.cells #[.bool false, .int .i64 0, .slice a1 xb.length d1] 152)).drew) w1.heap.size _ cs R.items 69 (HW4.out.ext hk0) (.slice (some ⟨w4.heap.size, 0, none⟩) 1 1) _ [⟨false, 0, xb⟩] (Box.src (Box.new w4 152 [.bool false, .int .i64 0, .slice a1 xb.length d1]).drew 1 1) (RowOf.one ⟨_, rfl, HBY4.out.ext hk0⟩ rfl) (by simp; omega) (by simp; omega)
   obtain ⟨a5, d5, rfl⟩ := hwin5.len
   have hbw := HW4.out.block
   have hE5 : Keeps (fun k => w.heap.size + 1 + 1 ≤ k) w4 wZ := (Ext.keeps hk0).then hk5 (fun i hi h2 => by have := (hbw i h2).1; show _ ≤ i; omega)
   have b52 := ((B42.out.ext hk0).keeps hk5 (fun h2 => by have := (hbw _ h2).1; omega))
   obtain ⟨c52, z52⟩ := b52.reads
   have l52 := b52.lt
   have B52 := Lib.hid b52
   have hown5 : ∀ k, (A k ∨ (w.heap.size + 1 + 1 + 1 ≤ k ∧ k < w1.heap.size)) → ¬ Own (.slice a3 R.items.length d3) k := fun k hk h2 => by
    have := (hbw k h2).1
    rcases hk with hk | hk
    · exact absurd (HA.out k hk) (by omega)
    · omega
   have HRZ := Lib.hid (RowOf.append (HRO4.out.mono (En' := ItemEn wZ (fun k => A k ∨ (w.heap.size + 1 + 1 + 1 ≤ k ∧ k < w1.heap.size))) fun c x h => ((h.keeps hk0 (fun _ _ => noB _)).mono (fun k hk => .inl hk)).keeps hk5 hown5) (RowOf.one (x := ⟨false, 0, xb⟩) ⟨_, rfl, ((HBY4.out.ext hk0).mono (fun k hk => Or.inr hk)).keeps hk5 hown5⟩ rfl))
   have HEZ : Hid (Ext w wZ) := ((HE4.out.ext hk0).then hk5 (fun i hi h2 => by have := (hbw i h2).1; omega))
   have HWZ := Lib.hid hwin5
   have hZ : w4.heap.size ≤ wZ.heap.size := hE5.size
   have HZ := Lib.hid hZ
   clear hbw hZ
   refine oper_append_ran _ _ hr5 rfl rfl rfl ?_
   clear hr5 hwin5 hk5 ho5 b52
   refine hK _ _ ⟨ClsK.of (by assumption), ?_⟩; clear hK K; try simp only [nP]
   refine pR rfl (fun W => by go_simp <;> with_reducible rfl) ?_; simp only [nP]
   refine plan_nil ?_; simp only [tailL, List.filterMap_cons, List.filterMap_nil, nL]; change wpList _ _ _ (_ :: _ :: _ :: []) _ _
   go_wp2_with fail
   have r1 := (((B52.out.set 0 (.int .i64 (R.most : Int))).set 1 (.slice a5 (R.items.length + 1) d5)).set 2 (.int .i64 (R.lost : Int))).reads.1
   dsimp only [List.set_cons_zero, List.set_cons_succ] at r1
   clear c40 c41 c42 c52 z40 z41 z42 z52
   refine bodyPost_ret (v := .tuple #[.agg #[.int .i64 (R.most : Int), .slice a5 (R.items.length + 1) d5, .int .i64 (R.lost : Int)], .int .i64 0, .int .i64 0]) (by simp [results, Tryz.results86, go_sem, r1]) rfl ?_
   have hw5 := HWZ.out
   obtain ⟨f1, f2⟩ := rput_fin (A := A) (q := w.heap.size + 1 + 1) (most := R.most) (lost := R.lost) (v := .slice a5 (R.items.length + 1) d5) (z0 := .int .i64 (R.most : Int)) (z1 := .slice a5 (R.items.length + 1) d5) (z2 := .int .i64 (R.lost : Int)) (by simpa using hw5) HRZ.out HEZ.out (by omega) (by omega) (by omega) (fun k hk => by
    have := HEZ.out.size
    rcases hk with hk | hk
    · have := HA.out k hk; exact ⟨by omega, .inl hk⟩
    · have h4 := HZ.out; exact ⟨by omega, .inr ⟨by omega, by omega⟩⟩)
   exact RPutPost.mk (n := 0) (m := 0) HP.out f1 f2
 · have HR4v := HR.out.ext HE4.out
   cases h34 : R.items.findIdx? p34 with
   | none =>
     have hfi : findI (pside true 0) R.items = -1 := by unfold findI; rw [← pside_p34, h34]
     have HFI := Lib.hid hfi
     have HRv := Lib.hid HR4v
     have H34 := Lib.hid h34
     clear hfi h34 HR4v
     go_wp2_with fail
     refine (rside_any (A := A) w4 _ R true 0 HRv.out hl (fun k hk => Nat.lt_of_lt_of_le (HA.out k hk) HE4.out.size)).mono ?_
     rintro e w5 ⟨rfl, hE5⟩
     rw [HFI.out]
     have hE35 := HE34.out.ext hE5
     have B50 := Lib.hid (BB0.out.ext hE35)
     have B51 := Lib.hid (BB1.out.ext hE35)
     have B52 := Lib.hid (BB2.out.ext hE35)
     obtain ⟨c50, z50⟩ := B50.out.reads
     obtain ⟨c51, z51⟩ := B51.out.reads
     obtain ⟨c52, z52⟩ := B52.out.reads
     have l50 := B50.out.lt
     have l51 := B51.out.lt
     have l52 := B52.out.lt
     have HE5 := Lib.hid (HE4.out.ext hE5)
     have HW5 := Lib.hid (HW4.out.ext hE5)
     have HRO5 := Lib.hid (HRO4.out.mono (En' := ItemEn w5 A) fun c x h => h.keeps hE5 (fun _ _ => noB _))
     have HE35 := Lib.hid hE35
     clear hE5 hE35 c40 c41 c42 z40 z41 z42
     go_wp2_with fail
     have hput : R.put ⟨false, 0, xb⟩ = (R, 0, 350) := by
      unfold AR.put
      rw [if_neg (by simp), if_neg (by dsimp only; omega), H33.out]
      dsimp only
      rw [if_neg hroom, H34.out]
      rfl
     have r1 := (((B52.out.set 0 (.int .i64 (R.most : Int))).set 1 (.slice a R.items.length c)).set 2 (.int .i64 (R.lost : Int))).reads.1
     dsimp only [List.set_cons_zero, List.set_cons_succ] at r1
     have hkq : Keeps (OneB (w.heap.size + 1 + 1)) w5 (((w5.setCell ⟨w.heap.size + 1 + 1, 0, none⟩ (.int .i64 (R.most : Int))).setCell ⟨w.heap.size + 1 + 1, 1, none⟩ (.slice a R.items.length c)).setCell ⟨w.heap.size + 1 + 1, 2, none⟩ (.int .i64 (R.lost : Int))) := (((Keeps.refl (OneB (w.heap.size + 1 + 1)) w5).setOne _ _).setOne _ _).setOne _ _
     clear c52 z52 c50 z50 c51 z51
     refine bodyPost_ret (v := .tuple #[.agg #[.int .i64 (R.most : Int), .slice a R.items.length c, .int .i64 (R.lost : Int)], .int .i64 0, .int .i64 350]) (by simp [results, Tryz.results86, go_sem, r1]) rfl ?_
     exact RPutPost.mk (n := 0) (m := 350) hput (((HR.out.ext HE5.out).keeps hkq (fun k hk h => by have := HA.out k hk; unfold OneB at h; omega)).mono fun k hk => .inl hk) (HE5.out.then hkq (fun i hi h => by unfold OneB at h; omega))
   | some i =>
     obtain ⟨hi, hpi⟩ := findIdx_at h34
     have hput : R.put ⟨false, 0, xb⟩ = ({ R with items := R.items.eraseIdx i ++ [⟨false, 0, xb⟩], lost := R.lost + 1 }, 1, 0) := by
      unfold AR.put
      rw [if_neg (by simp), if_neg (by dsimp only; omega), H33.out]
      dsimp only
      rw [if_neg hroom, h34]
     have HP := Lib.hid hput
     have hfi : findI (pside true 0) R.items = i := by unfold findI; rw [← pside_p34, h34]
     have HFI := Lib.hid hfi
     have HRv := Lib.hid HR4v
     clear hput hfi h34 HR4v hpi
     go_wp2_with fail
     refine (rside_any (A := A) w4 _ R true 0 HRv.out hl (fun k hk => Nat.lt_of_lt_of_le (HA.out k hk) HE4.out.size)).mono ?_
     rintro e w5 ⟨rfl, hE5⟩
     rw [HFI.out]
     have hE35 := HE34.out.ext hE5
     have B50 := Lib.hid (BB0.out.ext hE35)
     have B51 := Lib.hid (BB1.out.ext hE35)
     have B52 := Lib.hid (BB2.out.ext hE35)
     obtain ⟨c50, z50⟩ := B50.out.reads
     obtain ⟨c51, z51⟩ := B51.out.reads
     obtain ⟨c52, z52⟩ := B52.out.reads
     have l50 := B50.out.lt
     have l51 := B51.out.lt
     have l52 := B52.out.lt
     have HE35 := Lib.hid hE35
     have HE5 := Lib.hid (HE4.out.ext hE5)
     have hw5 := HW4.out.ext hE5
     have HRO5 := Lib.hid (HRO4.out.mono (En' := ItemEn w5 A) fun c x h => h.keeps hE5 (fun _ _ => noB _))
     have HBY5 := Lib.hid (HBY4.out.ext hE5)
     have h45 := hE5.size
     obtain ⟨g, o, cap, hv3, hg1, hg2, hg3, hg4⟩ := hw5.form (by omega)
     cases hv3
     obtain ⟨sp, hsp⟩ : ∃ sp : Option Addr, (if d3 = i + 1 then some (⟨g, o, none⟩ : Addr) else some ⟨g, o + (i + 1) * 3, none⟩) = sp := ⟨_, rfl⟩
     have hwd := hw5.drop' (i + 1) (by omega)
     rw [hsp] at hwd
     have hwt := hw5.take i (by omega)
     have gi : ¬ ((i : Int) < 0) := by omega
     have gi0 : (0 : Int) ≤ (i : Int) := by omega
     have gi4 : (0 : Int) ≤ (i : Int) + 1 := by omega
     have gi1 : (i : Int) ≤ (d3 : Int) := by omega
     have gi2 : (i : Int) + 1 ≤ (R.items.length : Int) := by omega
     have gi3 : IntKind.i64.wrap ((i : Int) + 1) = (i : Int) + 1 := by rw [IntWalk.i64_in _ (by omega)]
     have hk0 : Ext w5 ((w5.alloc (Obj.cells #[] 152)).drew) := ((Keeps.refl _ _).alloc _).drew
     have hli : (R.items.take i).length = i := by rw [List.length_take]; omega
     have hlj : (R.items.drop (i + 1)).length = R.items.length - (i + 1) := by rw [List.length_drop]
     obtain ⟨vA, wA, hrA, hwA, hkA, hoA⟩ := append_items (A := A) ((w5.alloc (Obj.cells #[] 152)).drew) w5.heap.size (.slice (some ⟨w5.heap.size, 0, none⟩) 0 0) [] [] 69 (Win.empty (Nat.le_refl _) (by simp)) (.slice (some ⟨g, o, none⟩) i d3) (cs.take (i * 3)) (R.items.take i) (by rw [hli]; exact (hwt.ext hk0).src) ((HRO5.out.take i (by omega)).mono fun c x h => h.keeps hk0 (fun _ _ => noB _)) (by rw [hli]; simp; omega) (by simp)
     simp only [List.nil_append] at hwA
     have hEA : Ext w5 wA := hk0.then hkA (fun i hi h2 => by have := own_eq h2; omega)
     obtain ⟨vB, wB, hrB, hwB, hkB, hoB⟩ := append_items (A := A) wA w5.heap.size vA _ (R.items.take i) 69 hwA (.slice sp (R.items.length - (i + 1)) (d3 - (i + 1))) (cs.drop ((i + 1) * 3)) (R.items.drop (i + 1)) (by rw [hlj]; exact (hwd.ext hEA).src) ((HRO5.out.drop (i + 1) (by omega)).mono fun c x h => h.keeps hEA (fun _ _ => noB _)) (by rw [hli, hlj]; omega) hEA.size
     have hEB : Ext w5 wB := hEA.then hkB (fun i hi h2 => by have := (hwA.block i h2).1; omega)
     have hE3B := HE35.out.ext hEB
     have B60 := Lib.hid (BB0.out.ext hE3B)
     have B61 := Lib.hid (BB1.out.ext hE3B)
     have B62 := Lib.hid (BB2.out.ext hE3B)
     obtain ⟨c60, z60⟩ := B60.out.reads
     obtain ⟨c61, z61⟩ := B61.out.reads
     obtain ⟨c62, z62⟩ := B62.out.reads
     have l60 := B60.out.lt
     have l61 := B61.out.lt
     have l62 := B62.out.lt
     obtain ⟨aA, dA, rfl⟩ := hwA.len
     obtain ⟨aB, dB, rfl⟩ := hwB.len
     rw [hli] at hrA hrB
     have hlen : (R.items.take i ++ R.items.drop (i + 1)).length = i + (R.items.length - (i + 1)) := by rw [List.length_append, hli, hlj]
     rw [hlen] at hrB
     have HLEN := Lib.hid hlen
     rw [hlen] at hwB
     have HWB := Lib.hid hwB
     have hb5B := hEB.size
     have HEB := Lib.hid (HE5.out.ext hEB)
     have HE3B := Lib.hid hE3B
     have HROB := Lib.hid ((RowOf.append (HRO5.out.take i (by omega)) (HRO5.out.drop (i + 1) (by omega))).mono (En' := ItemEn wB A) fun c x h => h.keeps hEB (fun _ _ => noB _))
     have HBYB := Lib.hid (HBY5.out.ext hEB)
     clear hE5 hE35 c40 c41 c42 z40 z41 z42 hw5 hwd hwt hg4 hwA hkA hoA hwB hkB hoB hEA hEB hk0 hE3B hlen hli hlj
     go_wp2_with fail
     have hE0 : Keeps NoB w5 w5.drew := (Keeps.refl _ _).drew
     refine wp_region_plan [(0, 1), (0, 2), (0, 3), (0, 5), (0, 6), (0, 7), (0, 8)] [] [0, 4, 9, 10] [0, 4, 9, 10] (ClsE w5) (by kernel_rfl) (by kernel_rfl) (by kernel_rfl) rfl rfl (ClsE.of hE0) (fun _ _ _ d _ h => by cases d <;> exact h) ?_; simp only [planL, nL]
     iterate 7 (first | (refine pM _ rfl rfl ?_; simp only [nP, nE]) | (refine pR (by rfl) (fun W => by go_simp <;> with_reducible rfl) ?_; simp only [nP]))
     refine plan_nil ?_; simp only [tailL, List.filterMap_cons, List.filterMap_nil, nL]; change wpList _ _ _ (_ :: _ :: _ :: _ :: []) _ _
     go_wp2_with (at_builtin; first | (refine wpList_append_ran rfl _ _ hrA rfl rfl rfl ?_; clear hrA) | (refine wpList_append_ran rfl _ _ hrB rfl rfl rfl ?_; clear hrB))
     clear c50 c51 c52 z50 z51 z52 hsp gi gi0 gi1 gi2 gi3 gi4
     have hput2 : R.put ⟨false, 0, xb⟩ = ({ R with items := (R.items.take i ++ R.items.drop (i + 1)) ++ [⟨false, 0, xb⟩], lost := R.lost + 1 }, 1, 0) := by
      rw [HP.out, List.eraseIdx_eq_take_drop_succ]
     have HP2 := Lib.hid hput2
     clear hput2
     have HWL : Hid (Win wB w5.heap.size 3 (.slice aB (i + (R.items.length - (i + 1))) dB) (R.items.take i ++ R.items.drop (i + 1)).length (cs.take (i * 3) ++ cs.drop ((i + 1) * 3))) := by
      have := HWB.out; rw [HLEN.out]; exact this
     obtain ⟨LL, hLL⟩ : ∃ LL, R.items.take i ++ R.items.drop (i + 1) = LL := ⟨_, rfl⟩
     rw [hLL] at HP2 HWL HROB HLEN
     clear hLL
     obtain ⟨NN, hNN⟩ : ∃ NN, i + (R.items.length - (i + 1)) = NN := ⟨_, rfl⟩
     rw [hNN] at HWL HLEN HWB
     simp only [hNN]
     obtain rfl : LL.length = NN := HLEN.out
     have hLb : LL.length ≤ 1000 := by omega
     clear hNN
     have hE0 : Keeps (fun k => w.heap.size + 1 + 1 ≤ k) wB wB.drew := (Keeps.refl _ _).drew
     refine wp_region_plan [(0, 0), (1, 1), (0, 2), (3, 3), (0, 6), (1, 7), (0, 8), (2, 4), (2, 5), (0, 9)] [1, 7] [4, 5, 10, 11, 12] [10, 11, 12] (ClsK (fun k => w.heap.size + 1 + 1 ≤ k) wB) (by kernel_rfl) (by kernel_rfl) (by kernel_rfl) rfl rfl (ClsK.of hE0) (fun _ _ _ d _ h => by cases d <;> exact h) ?_; simp only [planL, nL]
     iterate 7 (first | (refine pM _ rfl rfl ?_; simp only [nP, nE]) | (refine pR (by rfl) (fun W => by go_simp <;> with_reducible rfl) ?_; simp only [nP]) | (refine pX (by rfl) (by go_simp <;> with_reducible rfl) ?_; simp only [nP]) | (refine pK (by rfl) (fun W => by go_simp <;> with_reducible rfl) ?_; simp only [nP]))
     refine plan_does rfl (fun K hK => ?_)
     go_wp2_with fail
     refine ⟨ClsK.of (by repeat (first | assumption | exact Keeps.refl _ _ | refine Keeps.alloc ?_ _ | refine Keeps.setOne ?_ _ _ | refine Keeps.setCell ?_ _ _ (.inl (by first | rfl | exact .inl rfl | exact .inr rfl | omega)) | refine Keeps.drew ?_)), ?_⟩; try simp only [nP]
     refine plan_does rfl (fun K hK => ?_)
     have hk0 : Ext wB ((wB.alloc (Obj.cells #[.bool false, .int .i64 0, .slice a1 xb.length d1] 152)).drew) := ((Keeps.refl _ _).alloc _).drew
     obtain ⟨v5, wZ, hr5, hwin5, hk5, ho5⟩ := append_items (A := fun k => w.heap.size + 1 + 1 + 1 ≤ k ∧ k < w1.heap.size) ((wB.alloc (Obj.cells #[.bool false, .int .i64 0, .slice a1 xb.length d1] 152)).drew) w5.heap.size _ (cs.take (i * 3) ++ cs.drop ((i + 1) * 3)) LL 69 (HWL.out.ext hk0) (.slice (some ⟨wB.heap.size, 0, none⟩) 1 1) _ [⟨false, 0, xb⟩] (Box.src (Box.new wB 152 [.bool false, .int .i64 0, .slice a1 xb.length d1]).drew 1 1) (RowOf.one ⟨_, rfl, HBYB.out.ext hk0⟩ rfl) (by simp; omega) (by simp; omega)
     obtain ⟨a5, d5, rfl⟩ := hwin5.len
     have hbw := HWL.out.block
     have hE5 : Keeps (fun k => w.heap.size + 1 + 1 ≤ k) wB wZ := (Ext.keeps hk0).then hk5 (fun i hi h2 => by have := (hbw i h2).1; show _ ≤ i; omega)
     have b52 := ((B62.out.ext hk0).keeps hk5 (fun h2 => by have := (hbw _ h2).1; omega))
     obtain ⟨c52, z52⟩ := b52.reads
     have l52 := b52.lt
     have B52 := Lib.hid b52
     have hown5 : ∀ k, (A k ∨ (w.heap.size + 1 + 1 + 1 ≤ k ∧ k < w1.heap.size)) → ¬ Own (.slice aB LL.length dB) k := fun k hk h2 => by
      have := (hbw k h2).1
      rcases hk with hk | hk
      · exact absurd (HA.out k hk) (by omega)
      · omega
     have HRZ := Lib.hid (RowOf.append (HROB.out.mono (En' := ItemEn wZ (fun k => A k ∨ (w.heap.size + 1 + 1 + 1 ≤ k ∧ k < w1.heap.size))) fun c x h => ((h.keeps hk0 (fun _ _ => noB _)).mono (fun k hk => .inl hk)).keeps hk5 hown5) (RowOf.one (x := ⟨false, 0, xb⟩) ⟨_, rfl, ((HBYB.out.ext hk0).mono (fun k hk => Or.inr hk)).keeps hk5 hown5⟩ rfl))
     have HEZ : Hid (Ext w wZ) := ((HEB.out.ext hk0).then hk5 (fun i hi h2 => by have := (hbw i h2).1; omega))
     have HWZ := Lib.hid hwin5
     have hZ : wB.heap.size ≤ wZ.heap.size := hE5.size
     have HZ := Lib.hid hZ
     clear hbw hZ
     refine oper_append_ran _ _ hr5 rfl rfl rfl ?_
     clear hr5 hwin5 hk5 ho5 b52
     refine hK _ _ ⟨ClsK.of (by assumption), ?_⟩; clear hK K; try simp only [nP]
     refine pR rfl (fun W => by go_simp <;> with_reducible rfl) ?_; simp only [nP]
     refine plan_nil ?_; simp only [tailL, List.filterMap_cons, List.filterMap_nil, nL]; change wpList _ _ _ (_ :: _ :: _ :: []) _ _
     go_wp2_with fail
     have r1 := (((B52.out.set 0 (.int .i64 (R.most : Int))).set 1 (.slice a5 (LL.length + 1) d5)).set 2 (.int .i64 ((R.lost : Int) + 1))).reads.1
     dsimp only [List.set_cons_zero, List.set_cons_succ] at r1
     clear c60 c61 c62 c52 z60 z61 z62 z52
     refine bodyPost_ret (v := .tuple #[.agg #[.int .i64 (R.most : Int), .slice a5 (LL.length + 1) d5, .int .i64 ((R.lost : Int) + 1)], .int .i64 1, .int .i64 0]) (by simp [results, Tryz.results86, go_sem, r1]) rfl ?_
     have hw5 := HWZ.out
     obtain ⟨f1, f2⟩ := rput_fin (A := A) (q := w.heap.size + 1 + 1) (most := R.most) (lost := R.lost + 1) (v := .slice a5 (LL.length + 1) d5) (z0 := .int .i64 (R.most : Int)) (z1 := .slice a5 (LL.length + 1) d5) (z2 := .int .i64 ((R.lost : Int) + 1)) (by simpa using hw5) HRZ.out HEZ.out (by omega) (by omega) (by omega) (fun k hk => by
      have := HEZ.out.size
      rcases hk with hk | hk
      · have := HA.out k hk; exact ⟨by omega, .inl hk⟩
      · have h4 := HZ.out; exact ⟨by omega, .inr ⟨by omega, by omega⟩⟩)
     exact RPutPost.mk (n := 1) (m := 0) HP2.out f1 f2
set_option maxHeartbeats 2000000 in
theorem rput_side {A B : Nat → Prop} (w : World) (v vx : Value) (R : AR) (key : Int) (xb : List UInt8) (h : RefV w A v R) (hv : ItemV w B vx ⟨true, key, xb⟩) (hl : R.items.length ≤ 1000) (hm : R.most ≤ 1000) (hlost : R.lost ≤ 1000000) (hx : xb.length ≤ 1024)
 (hA : ∀ k, A k → k < w.heap.size) (hB : ∀ k, B k → k < w.heap.size) (h33 : R.items.findIdx? (p33 ⟨true, key, xb⟩) = none) :
 Calls Tryz.prog 86 #[v, vx] w (RPutPost w A R ⟨true, key, xb⟩) := by
 have hf33 : true = true → findI (pside false key) R.items = -1 := fun hh => by
  unfold findI; rw [← pside_p33 ⟨true, key, xb⟩ hh, h33]
 have H33 := Lib.hid h33
 have F33 := Lib.hid hf33
 clear h33 hf33
 have HR := Lib.hid h
 obtain ⟨sv, rfl, hs⟩ := h
 obtain ⟨a, c, rfl, -⟩ := hs.itAt
 obtain ⟨bx, rfl, hb⟩ := hv
 obtain ⟨a2, c2, rfl⟩ := hb.len
 have HS := Lib.hid hs
 have HA := Lib.hid hA
 have HB := Lib.hid hB
 dsimp only at hb ⊢
 have hng : ¬ (1024 < (xb.length : Int)) := by omega
 have e0 : Ext w ((((w.alloc (Obj.cells #[.int .i64 (R.most : Int), .slice a R.items.length c, .int .i64 (R.lost : Int)] 71)).alloc (Obj.cells #[.bool true, .int .i64 key, .slice a2 xb.length c2] 152)).alloc (Obj.cells #[.int .i64 0, .slice none 0 0, .int .i64 0] 71)).alloc (Obj.cells #[] 5)) := ((((Keeps.refl _ _).alloc _).alloc _).alloc _).alloc _
 obtain ⟨v1, w1, hr1, hwin1, hk1, ho1⟩ := append_bytes ((((w.alloc (Obj.cells #[.int .i64 (R.most : Int), .slice a R.items.length c, .int .i64 (R.lost : Int)] 71)).alloc (Obj.cells #[.bool true, .int .i64 key, .slice a2 xb.length c2] 152)).alloc (Obj.cells #[.int .i64 0, .slice none 0 0, .int .i64 0] 71)).alloc (Obj.cells #[] 5)) (w.heap.size + 1 + 1 + 1) (.slice (some ⟨w.heap.size + 1 + 1 + 1, 0, none⟩) 0 0) [] 27 (Win.empty (Nat.le_refl _) (by simp)) _ xb (hb.ext e0) (by simp; omega) (by simp)
 simp only [List.nil_append] at hwin1
 obtain ⟨a1, d1, rfl⟩ := hwin1.len
 have e1 : Ext w w1 := e0.then hk1 (fun i hi h2 => by have := own_eq h2; omega)
 have b0 := ((((Box.new w 71 [.int .i64 (R.most : Int), .slice a R.items.length c, .int .i64 (R.lost : Int)]).alloc (Obj.cells #[.bool true, .int .i64 key, .slice a2 xb.length c2] 152)).alloc (Obj.cells #[.int .i64 0, .slice none 0 0, .int .i64 0] 71)).alloc (Obj.cells #[] 5)).keeps hk1 (fun h2 => by have := own_eq h2; omega)
 have b1 := (((Box.new (w.alloc (Obj.cells #[.int .i64 (R.most : Int), .slice a R.items.length c, .int .i64 (R.lost : Int)] 71)) 152 [.bool true, .int .i64 key, .slice a2 xb.length c2]).alloc (Obj.cells #[.int .i64 0, .slice none 0 0, .int .i64 0] 71)).alloc (Obj.cells #[] 5)).keeps hk1 (fun h2 => by have := own_eq h2; simp at this)
 have b2 := ((Box.new ((w.alloc (Obj.cells #[.int .i64 (R.most : Int), .slice a R.items.length c, .int .i64 (R.lost : Int)] 71)).alloc (Obj.cells #[.bool true, .int .i64 key, .slice a2 xb.length c2] 152)) 71 [.int .i64 0, .slice none 0 0, .int .i64 0]).alloc (Obj.cells #[] 5)).keeps hk1 (fun h2 => by have := own_eq h2; simp at this)
 simp only [World.size_alloc] at b1 b2
 obtain ⟨c0, z0⟩ := b0.reads
 obtain ⟨c1, z1⟩ := b1.reads
 obtain ⟨q2, z2⟩ := b2.reads
 have l0 := b0.lt
 have l1 := b1.lt
 have l2 := b2.lt
 have eS : Ext w ((w1.setCell ⟨w.heap.size + 1, 2, none⟩ (.slice a1 xb.length d1)).alloc (Obj.cells #[] 152)) := (e1.setNew _ _ (by simp)).alloc _
 obtain ⟨cs, hrow, hsrc⟩ := items_row (hs.itExt eS)
 obtain ⟨v3, w3, hr3, hwin3, hk3, ho3⟩ := append_items (A := A) _ w1.heap.size (.slice (some ⟨w1.heap.size, 0, none⟩) 0 0) [] [] 69 (Win.empty (Nat.le_refl _) (by simp [World.setCell])) _ cs R.items hsrc hrow (by simp; omega) (by simp [World.setCell])
 simp only [List.nil_append] at hwin3
 obtain ⟨a3, d3, rfl⟩ := hwin3.len
 have b30 := ((b0.other ⟨w.heap.size + 1, 2, none⟩ (.slice a1 xb.length d1) (by simp)).alloc (Obj.cells #[] 152)).keeps hk3 (fun h2 => by have := own_eq h2; omega)
 have b31 := ((b1.set 2 (.slice a1 xb.length d1)).alloc (Obj.cells #[] 152)).keeps hk3 (fun h2 => by have := own_eq h2; omega)
 have b32 := ((b2.other ⟨w.heap.size + 1, 2, none⟩ (.slice a1 xb.length d1) (by simp)).alloc (Obj.cells #[] 152)).keeps hk3 (fun h2 => by have := own_eq h2; omega)
 dsimp only [List.set_cons_zero, List.set_cons_succ] at b31
 have e3 : Ext w w3 := eS.then hk3 (fun i hi h2 => by have := own_eq h2; omega)
 have hk13 : Keeps (fun k => k = w.heap.size + 1 ∨ k = w1.heap.size) w1 w3 := ((((Keeps.refl _ w1).setCell ⟨w.heap.size + 1, 2, none⟩ (.slice a1 xb.length d1) (.inl (.inl rfl)))).alloc (Obj.cells #[] 152)).then hk3 (fun i hi h2 => .inr (own_eq h2))
 have hby3 := (Bytes.of_win hwin1).keeps hk13 (fun k hk h2 => by have h3 := hk.1; have h4 := hk.2; rcases h2 with h2 | h2 <;> omega)
 have hrow3 := hrow.mono (En' := ItemEn w3 A) fun c x h => h.keeps hk3 (fun k hk h2 => by have := HA.out k hk; have := own_eq h2; omega)
 obtain ⟨c30, z30⟩ := b30.reads
 obtain ⟨c31, z31⟩ := b31.reads
 obtain ⟨c32, z32⟩ := b32.reads
 have l30 := b30.lt
 have l31 := b31.lt
 have l32 := b32.lt
 have HE3 := Lib.hid e3
 have HBY := Lib.hid hby3
 have HRO3 := Lib.hid hrow3
 have HK13 := Lib.hid hk13
 have BB0 := Lib.hid b30
 have BB1 := Lib.hid b31
 have BB2 := Lib.hid b32
 have HW1 := Lib.hid hwin1
 have HW3 := Lib.hid hwin3
 have HK3 := Lib.hid hk3
 have HRO := Lib.hid hrow
 have B0 := Lib.hid b0
 have B1 := Lib.hid b1
 have B2 := Lib.hid b2
 have HE1 := Lib.hid e1
 clear hs hb hA hB hwin1 hk1 ho1 e0 e1 hwin3 hk3 ho3 hrow hsrc b0 b1 b2 eS b30 b31 b32 e3 hk13 hby3 hrow3
 go_enter Tryz.func86, Tryz.ntmps86
 go_wp2_with (at_builtin; first | refine wpList_append_ran rfl _ _ hr1 rfl rfl rfl ?_ | refine wpList_append_ran rfl _ _ hr3 rfl rfl rfl ?_)
 refine (rside_any (A := A) w3 _ R false key (HR.out.ext HE3.out) hl (fun k hk => Nat.lt_of_lt_of_le (HA.out k hk) HE3.out.size)).mono ?_
 rintro e w4 ⟨rfl, hE4⟩
 obtain ⟨fi, hfi⟩ : ∃ fi, findI (pside false key) R.items = fi := ⟨_, rfl⟩
 rw [hfi]
 have hfi' : true = true → fi = -1 := fun hh => by rw [← hfi]; have F := F33.out; first | exact F hh | exact F | simpa using F
 clear hfi
 first
  | (obtain rfl : fi = -1 := hfi' rfl; clear hfi')
  | clear hfi'
 have HE34 := Lib.hid hE4
 have HE4 := Lib.hid (HE3.out.ext hE4)
 have B40 := Lib.hid (BB0.out.ext hE4)
 have B41 := Lib.hid (BB1.out.ext hE4)
 have B42 := Lib.hid (BB2.out.ext hE4)
 obtain ⟨c40, z40⟩ := B40.out.reads
 obtain ⟨c41, z41⟩ := B41.out.reads
 obtain ⟨c42, z42⟩ := B42.out.reads
 have l40 := B40.out.lt
 have l41 := B41.out.lt
 have l42 := B42.out.lt
 have HW4 := Lib.hid (HW3.out.ext hE4)
 have HRO4 := Lib.hid (HRO3.out.mono (En' := ItemEn w4 A) fun c x h => h.keeps hE4 (fun _ _ => noB _))
 have HBY4 := Lib.hid (HBY.out.ext hE4)
 have hb14 : w1.heap.size ≤ w4.heap.size := by have h1 := hE4.size; have h2 := HK13.out.size; omega
 have s0 : ¬ (w.heap.size + 1 + 1 ≤ w.heap.size) := by omega
 have s1 : ¬ (w.heap.size + 1 + 1 ≤ w.heap.size + 1) := by omega
 have gl : IntKind.i64.wrap ((R.lost : Int) + 1) = (R.lost : Int) + 1 := by rw [IntWalk.i64_in _ (by omega)]
 clear hE4 c0 c1 q2 z0 z1 z2 c30 c31 c32 z30 z31 z32 hr1 hr3
 by_cases hroom : R.items.length < R.most
 · have hput : R.put ⟨true, key, xb⟩ = ({ R with items := R.items ++ [⟨true, key, xb⟩] }, 0, 0) := by
    unfold AR.put
    rw [if_neg (by simp), if_neg (by dsimp only; omega), H33.out]
    dsimp only
    rw [if_pos hroom]
   have HP := Lib.hid hput
   clear hput
   go_wp2_with fail
   have hE0 : Keeps (fun k => w.heap.size + 1 + 1 ≤ k) w4 w4.drew := (Keeps.refl _ _).drew
   refine wp_region_plan [(0, 0), (1, 1), (0, 2), (3, 3), (0, 6), (1, 7), (2, 4), (2, 5), (0, 8)] [1, 7] [4, 5, 9, 10, 11] [9, 10, 11] (ClsK (fun k => w.heap.size + 1 + 1 ≤ k) w4) (by kernel_rfl) (by kernel_rfl) (by kernel_rfl) rfl rfl (ClsK.of hE0) (fun _ _ _ d _ h => by cases d <;> exact h) ?_; simp only [planL, nL]
   iterate 6 (first | (refine pM _ rfl rfl ?_; simp only [nP, nE]) | (refine pR (by rfl) (fun W => by go_simp <;> with_reducible rfl) ?_; simp only [nP]) | (refine pX (by rfl) (by go_simp <;> with_reducible rfl) ?_; simp only [nP]) | (refine pK (by rfl) (fun W => by go_simp <;> with_reducible rfl) ?_; simp only [nP]))
   refine plan_does rfl (fun K hK => ?_)
   go_wp2_with fail
   refine ⟨ClsK.of (by repeat (first | assumption | exact Keeps.refl _ _ | refine Keeps.alloc ?_ _ | refine Keeps.setOne ?_ _ _ | refine Keeps.setCell ?_ _ _ (.inl (by first | rfl | exact .inl rfl | exact .inr rfl | omega)) | refine Keeps.drew ?_)), ?_⟩; try simp only [nP]
   refine plan_does rfl (fun K hK => ?_)
   have hk0 : Ext w4 ((w4.alloc (Obj.cells #[.bool true, .int .i64 key, .slice a1 xb.length d1] 152)).drew) := ((Keeps.refl _ _).alloc _).drew
   obtain ⟨v5, wZ, hr5, hwin5, hk5, ho5⟩ := append_items (A := fun k => w.heap.size + 1 + 1 + 1 ≤ k ∧ k < w1.heap.size) ((w4.alloc (Obj.cells #[.bool true, .int .i64 key, .slice a1 xb.length d1] 152)).drew) w1.heap.size _ cs R.items 69 (HW4.out.ext hk0) (.slice (some ⟨w4.heap.size, 0, none⟩) 1 1) _ [⟨true, key, xb⟩] (Box.src (Box.new w4 152 [.bool true, .int .i64 key, .slice a1 xb.length d1]).drew 1 1) (RowOf.one ⟨_, rfl, HBY4.out.ext hk0⟩ rfl) (by simp; omega) (by simp; omega)
   obtain ⟨a5, d5, rfl⟩ := hwin5.len
   have hbw := HW4.out.block
   have hE5 : Keeps (fun k => w.heap.size + 1 + 1 ≤ k) w4 wZ := (Ext.keeps hk0).then hk5 (fun i hi h2 => by have := (hbw i h2).1; show _ ≤ i; omega)
   have b52 := ((B42.out.ext hk0).keeps hk5 (fun h2 => by have := (hbw _ h2).1; omega))
   obtain ⟨c52, z52⟩ := b52.reads
   have l52 := b52.lt
   have B52 := Lib.hid b52
   have hown5 : ∀ k, (A k ∨ (w.heap.size + 1 + 1 + 1 ≤ k ∧ k < w1.heap.size)) → ¬ Own (.slice a3 R.items.length d3) k := fun k hk h2 => by
    have := (hbw k h2).1
    rcases hk with hk | hk
    · exact absurd (HA.out k hk) (by omega)
    · omega
   have HRZ := Lib.hid (RowOf.append (HRO4.out.mono (En' := ItemEn wZ (fun k => A k ∨ (w.heap.size + 1 + 1 + 1 ≤ k ∧ k < w1.heap.size))) fun c x h => ((h.keeps hk0 (fun _ _ => noB _)).mono (fun k hk => .inl hk)).keeps hk5 hown5) (RowOf.one (x := ⟨true, key, xb⟩) ⟨_, rfl, ((HBY4.out.ext hk0).mono (fun k hk => Or.inr hk)).keeps hk5 hown5⟩ rfl))
   have HEZ : Hid (Ext w wZ) := ((HE4.out.ext hk0).then hk5 (fun i hi h2 => by have := (hbw i h2).1; omega))
   have HWZ := Lib.hid hwin5
   have hZ : w4.heap.size ≤ wZ.heap.size := hE5.size
   have HZ := Lib.hid hZ
   clear hbw hZ
   refine oper_append_ran _ _ hr5 rfl rfl rfl ?_
   clear hr5 hwin5 hk5 ho5 b52
   refine hK _ _ ⟨ClsK.of (by assumption), ?_⟩; clear hK K; try simp only [nP]
   refine pR rfl (fun W => by go_simp <;> with_reducible rfl) ?_; simp only [nP]
   refine plan_nil ?_; simp only [tailL, List.filterMap_cons, List.filterMap_nil, nL]; change wpList _ _ _ (_ :: _ :: _ :: []) _ _
   go_wp2_with fail
   have r1 := (((B52.out.set 0 (.int .i64 (R.most : Int))).set 1 (.slice a5 (R.items.length + 1) d5)).set 2 (.int .i64 (R.lost : Int))).reads.1
   dsimp only [List.set_cons_zero, List.set_cons_succ] at r1
   clear c40 c41 c42 c52 z40 z41 z42 z52
   refine bodyPost_ret (v := .tuple #[.agg #[.int .i64 (R.most : Int), .slice a5 (R.items.length + 1) d5, .int .i64 (R.lost : Int)], .int .i64 0, .int .i64 0]) (by simp [results, Tryz.results86, go_sem, r1]) rfl ?_
   have hw5 := HWZ.out
   obtain ⟨f1, f2⟩ := rput_fin (A := A) (q := w.heap.size + 1 + 1) (most := R.most) (lost := R.lost) (v := .slice a5 (R.items.length + 1) d5) (z0 := .int .i64 (R.most : Int)) (z1 := .slice a5 (R.items.length + 1) d5) (z2 := .int .i64 (R.lost : Int)) (by simpa using hw5) HRZ.out HEZ.out (by omega) (by omega) (by omega) (fun k hk => by
    have := HEZ.out.size
    rcases hk with hk | hk
    · have := HA.out k hk; exact ⟨by omega, .inl hk⟩
    · have h4 := HZ.out; exact ⟨by omega, .inr ⟨by omega, by omega⟩⟩)
   exact RPutPost.mk (n := 0) (m := 0) HP.out f1 f2
 · have HR4v := HR.out.ext HE4.out
   cases h34 : R.items.findIdx? p34 with
   | none =>
     have hfi : findI (pside true 0) R.items = -1 := by unfold findI; rw [← pside_p34, h34]
     have HFI := Lib.hid hfi
     have HRv := Lib.hid HR4v
     have H34 := Lib.hid h34
     clear hfi h34 HR4v
     go_wp2_with fail
     refine (rside_any (A := A) w4 _ R true 0 HRv.out hl (fun k hk => Nat.lt_of_lt_of_le (HA.out k hk) HE4.out.size)).mono ?_
     rintro e w5 ⟨rfl, hE5⟩
     rw [HFI.out]
     have hE35 := HE34.out.ext hE5
     have B50 := Lib.hid (BB0.out.ext hE35)
     have B51 := Lib.hid (BB1.out.ext hE35)
     have B52 := Lib.hid (BB2.out.ext hE35)
     obtain ⟨c50, z50⟩ := B50.out.reads
     obtain ⟨c51, z51⟩ := B51.out.reads
     obtain ⟨c52, z52⟩ := B52.out.reads
     have l50 := B50.out.lt
     have l51 := B51.out.lt
     have l52 := B52.out.lt
     have HE5 := Lib.hid (HE4.out.ext hE5)
     have HW5 := Lib.hid (HW4.out.ext hE5)
     have HRO5 := Lib.hid (HRO4.out.mono (En' := ItemEn w5 A) fun c x h => h.keeps hE5 (fun _ _ => noB _))
     have HE35 := Lib.hid hE35
     clear hE5 hE35 c40 c41 c42 z40 z41 z42
     go_wp2_with fail
     have hput : R.put ⟨true, key, xb⟩ = ({ R with lost := R.lost + 1 }, 1, 0) := by
      unfold AR.put
      rw [if_neg (by simp), if_neg (by dsimp only; omega), H33.out]
      dsimp only
      rw [if_neg hroom, H34.out]
      rfl
     have r1 := (((B52.out.set 0 (.int .i64 (R.most : Int))).set 1 (.slice a3 R.items.length d3)).set 2 (.int .i64 ((R.lost : Int) + 1))).reads.1
     dsimp only [List.set_cons_zero, List.set_cons_succ] at r1
     clear c52 z52 c50 z50 c51 z51
     refine bodyPost_ret (v := .tuple #[.agg #[.int .i64 (R.most : Int), .slice a3 R.items.length d3, .int .i64 ((R.lost : Int) + 1)], .int .i64 1, .int .i64 0]) (by simp [results, Tryz.results86, go_sem, r1]) rfl ?_
     obtain ⟨f1, f2⟩ := rput_fin (A := A) (q := w.heap.size + 1 + 1) (most := R.most) (lost := R.lost + 1) (v := .slice a3 R.items.length d3) (z0 := .int .i64 (R.most : Int)) (z1 := .slice a3 R.items.length d3) (z2 := .int .i64 ((R.lost : Int) + 1)) HW5.out HRO5.out HE5.out (by omega) (by omega) (by omega) (fun k hk => by have := HA.out k hk; exact ⟨by omega, .inl hk⟩)
     exact RPutPost.mk (n := 1) (m := 0) hput f1 f2
   | some i =>
     obtain ⟨hi, hpi⟩ := findIdx_at h34
     have hput : R.put ⟨true, key, xb⟩ = ({ R with items := R.items.eraseIdx i ++ [⟨true, key, xb⟩], lost := R.lost + 1 }, 1, 0) := by
      unfold AR.put
      rw [if_neg (by simp), if_neg (by dsimp only; omega), H33.out]
      dsimp only
      rw [if_neg hroom, h34]
     have HP := Lib.hid hput
     have hfi : findI (pside true 0) R.items = i := by unfold findI; rw [← pside_p34, h34]
     have HFI := Lib.hid hfi
     have HRv := Lib.hid HR4v
     clear hput hfi h34 HR4v hpi
     go_wp2_with fail
     refine (rside_any (A := A) w4 _ R true 0 HRv.out hl (fun k hk => Nat.lt_of_lt_of_le (HA.out k hk) HE4.out.size)).mono ?_
     rintro e w5 ⟨rfl, hE5⟩
     rw [HFI.out]
     have hE35 := HE34.out.ext hE5
     have B50 := Lib.hid (BB0.out.ext hE35)
     have B51 := Lib.hid (BB1.out.ext hE35)
     have B52 := Lib.hid (BB2.out.ext hE35)
     obtain ⟨c50, z50⟩ := B50.out.reads
     obtain ⟨c51, z51⟩ := B51.out.reads
     obtain ⟨c52, z52⟩ := B52.out.reads
     have l50 := B50.out.lt
     have l51 := B51.out.lt
     have l52 := B52.out.lt
     have HE35 := Lib.hid hE35
     have HE5 := Lib.hid (HE4.out.ext hE5)
     have hw5 := HW4.out.ext hE5
     have HRO5 := Lib.hid (HRO4.out.mono (En' := ItemEn w5 A) fun c x h => h.keeps hE5 (fun _ _ => noB _))
     have HBY5 := Lib.hid (HBY4.out.ext hE5)
     have h45 := hE5.size
     obtain ⟨g, o, cap, hv3, hg1, hg2, hg3, hg4⟩ := hw5.form (by omega)
     cases hv3
     obtain ⟨sp, hsp⟩ : ∃ sp : Option Addr, (if d3 = i + 1 then some (⟨g, o, none⟩ : Addr) else some ⟨g, o + (i + 1) * 3, none⟩) = sp := ⟨_, rfl⟩
     have hwd := hw5.drop' (i + 1) (by omega)
     rw [hsp] at hwd
     have hwt := hw5.take i (by omega)
     have gi : ¬ ((i : Int) < 0) := by omega
     have gi0 : (0 : Int) ≤ (i : Int) := by omega
     have gi4 : (0 : Int) ≤ (i : Int) + 1 := by omega
     have gi1 : (i : Int) ≤ (d3 : Int) := by omega
     have gi2 : (i : Int) + 1 ≤ (R.items.length : Int) := by omega
     have gi3 : IntKind.i64.wrap ((i : Int) + 1) = (i : Int) + 1 := by rw [IntWalk.i64_in _ (by omega)]
     have hk0 : Ext w5 ((w5.alloc (Obj.cells #[] 152)).drew) := ((Keeps.refl _ _).alloc _).drew
     have hli : (R.items.take i).length = i := by rw [List.length_take]; omega
     have hlj : (R.items.drop (i + 1)).length = R.items.length - (i + 1) := by rw [List.length_drop]
     obtain ⟨vA, wA, hrA, hwA, hkA, hoA⟩ := append_items (A := A) ((w5.alloc (Obj.cells #[] 152)).drew) w5.heap.size (.slice (some ⟨w5.heap.size, 0, none⟩) 0 0) [] [] 69 (Win.empty (Nat.le_refl _) (by simp)) (.slice (some ⟨g, o, none⟩) i d3) (cs.take (i * 3)) (R.items.take i) (by rw [hli]; exact (hwt.ext hk0).src) ((HRO5.out.take i (by omega)).mono fun c x h => h.keeps hk0 (fun _ _ => noB _)) (by rw [hli]; simp; omega) (by simp)
     simp only [List.nil_append] at hwA
     have hEA : Ext w5 wA := hk0.then hkA (fun i hi h2 => by have := own_eq h2; omega)
     obtain ⟨vB, wB, hrB, hwB, hkB, hoB⟩ := append_items (A := A) wA w5.heap.size vA _ (R.items.take i) 69 hwA (.slice sp (R.items.length - (i + 1)) (d3 - (i + 1))) (cs.drop ((i + 1) * 3)) (R.items.drop (i + 1)) (by rw [hlj]; exact (hwd.ext hEA).src) ((HRO5.out.drop (i + 1) (by omega)).mono fun c x h => h.keeps hEA (fun _ _ => noB _)) (by rw [hli, hlj]; omega) hEA.size
     have hEB : Ext w5 wB := hEA.then hkB (fun i hi h2 => by have := (hwA.block i h2).1; omega)
     have hE3B := HE35.out.ext hEB
     have B60 := Lib.hid (BB0.out.ext hE3B)
     have B61 := Lib.hid (BB1.out.ext hE3B)
     have B62 := Lib.hid (BB2.out.ext hE3B)
     obtain ⟨c60, z60⟩ := B60.out.reads
     obtain ⟨c61, z61⟩ := B61.out.reads
     obtain ⟨c62, z62⟩ := B62.out.reads
     have l60 := B60.out.lt
     have l61 := B61.out.lt
     have l62 := B62.out.lt
     obtain ⟨aA, dA, rfl⟩ := hwA.len
     obtain ⟨aB, dB, rfl⟩ := hwB.len
     rw [hli] at hrA hrB
     have hlen : (R.items.take i ++ R.items.drop (i + 1)).length = i + (R.items.length - (i + 1)) := by rw [List.length_append, hli, hlj]
     rw [hlen] at hrB
     have HLEN := Lib.hid hlen
     rw [hlen] at hwB
     have HWB := Lib.hid hwB
     have hb5B := hEB.size
     have HEB := Lib.hid (HE5.out.ext hEB)
     have HE3B := Lib.hid hE3B
     have HROB := Lib.hid ((RowOf.append (HRO5.out.take i (by omega)) (HRO5.out.drop (i + 1) (by omega))).mono (En' := ItemEn wB A) fun c x h => h.keeps hEB (fun _ _ => noB _))
     have HBYB := Lib.hid (HBY5.out.ext hEB)
     clear hE5 hE35 c40 c41 c42 z40 z41 z42 hw5 hwd hwt hg4 hwA hkA hoA hwB hkB hoB hEA hEB hk0 hE3B hlen hli hlj
     go_wp2_with fail
     have hE0 : Keeps NoB w5 w5.drew := (Keeps.refl _ _).drew
     refine wp_region_plan [(0, 1), (0, 2), (0, 3), (0, 5), (0, 6), (0, 7), (0, 8)] [] [0, 4, 9, 10] [0, 4, 9, 10] (ClsE w5) (by kernel_rfl) (by kernel_rfl) (by kernel_rfl) rfl rfl (ClsE.of hE0) (fun _ _ _ d _ h => by cases d <;> exact h) ?_; simp only [planL, nL]
     iterate 7 (first | (refine pM _ rfl rfl ?_; simp only [nP, nE]) | (refine pR (by rfl) (fun W => by go_simp <;> with_reducible rfl) ?_; simp only [nP]))
     refine plan_nil ?_; simp only [tailL, List.filterMap_cons, List.filterMap_nil, nL]; change wpList _ _ _ (_ :: _ :: _ :: _ :: []) _ _
     go_wp2_with (at_builtin; first | (refine wpList_append_ran rfl _ _ hrA rfl rfl rfl ?_; clear hrA) | (refine wpList_append_ran rfl _ _ hrB rfl rfl rfl ?_; clear hrB))
     clear c50 c51 c52 z50 z51 z52 hsp gi gi0 gi1 gi2 gi3 gi4
     have hput2 : R.put ⟨true, key, xb⟩ = ({ R with items := (R.items.take i ++ R.items.drop (i + 1)) ++ [⟨true, key, xb⟩], lost := R.lost + 1 }, 1, 0) := by
      rw [HP.out, List.eraseIdx_eq_take_drop_succ]
     have HP2 := Lib.hid hput2
     clear hput2
     have HWL : Hid (Win wB w5.heap.size 3 (.slice aB (i + (R.items.length - (i + 1))) dB) (R.items.take i ++ R.items.drop (i + 1)).length (cs.take (i * 3) ++ cs.drop ((i + 1) * 3))) := by
      have := HWB.out; rw [HLEN.out]; exact this
     obtain ⟨LL, hLL⟩ : ∃ LL, R.items.take i ++ R.items.drop (i + 1) = LL := ⟨_, rfl⟩
     rw [hLL] at HP2 HWL HROB HLEN
     clear hLL
     obtain ⟨NN, hNN⟩ : ∃ NN, i + (R.items.length - (i + 1)) = NN := ⟨_, rfl⟩
     rw [hNN] at HWL HLEN HWB
     simp only [hNN]
     obtain rfl : LL.length = NN := HLEN.out
     have hLb : LL.length ≤ 1000 := by omega
     clear hNN
     have hE0 : Keeps (fun k => w.heap.size + 1 + 1 ≤ k) wB wB.drew := (Keeps.refl _ _).drew
     refine wp_region_plan [(0, 0), (1, 1), (0, 2), (3, 3), (0, 6), (1, 7), (0, 8), (2, 4), (2, 5), (0, 9)] [1, 7] [4, 5, 10, 11, 12] [10, 11, 12] (ClsK (fun k => w.heap.size + 1 + 1 ≤ k) wB) (by kernel_rfl) (by kernel_rfl) (by kernel_rfl) rfl rfl (ClsK.of hE0) (fun _ _ _ d _ h => by cases d <;> exact h) ?_; simp only [planL, nL]
     iterate 7 (first | (refine pM _ rfl rfl ?_; simp only [nP, nE]) | (refine pR (by rfl) (fun W => by go_simp <;> with_reducible rfl) ?_; simp only [nP]) | (refine pX (by rfl) (by go_simp <;> with_reducible rfl) ?_; simp only [nP]) | (refine pK (by rfl) (fun W => by go_simp <;> with_reducible rfl) ?_; simp only [nP]))
     refine plan_does rfl (fun K hK => ?_)
     go_wp2_with fail
     refine ⟨ClsK.of (by repeat (first | assumption | exact Keeps.refl _ _ | refine Keeps.alloc ?_ _ | refine Keeps.setOne ?_ _ _ | refine Keeps.setCell ?_ _ _ (.inl (by first | rfl | exact .inl rfl | exact .inr rfl | omega)) | refine Keeps.drew ?_)), ?_⟩; try simp only [nP]
     refine plan_does rfl (fun K hK => ?_)
     have hk0 : Ext wB ((wB.alloc (Obj.cells #[.bool true, .int .i64 key, .slice a1 xb.length d1] 152)).drew) := ((Keeps.refl _ _).alloc _).drew
     obtain ⟨v5, wZ, hr5, hwin5, hk5, ho5⟩ := append_items (A := fun k => w.heap.size + 1 + 1 + 1 ≤ k ∧ k < w1.heap.size) ((wB.alloc (Obj.cells #[.bool true, .int .i64 key, .slice a1 xb.length d1] 152)).drew) w5.heap.size _ (cs.take (i * 3) ++ cs.drop ((i + 1) * 3)) LL 69 (HWL.out.ext hk0) (.slice (some ⟨wB.heap.size, 0, none⟩) 1 1) _ [⟨true, key, xb⟩] (Box.src (Box.new wB 152 [.bool true, .int .i64 key, .slice a1 xb.length d1]).drew 1 1) (RowOf.one ⟨_, rfl, HBYB.out.ext hk0⟩ rfl) (by simp; omega) (by simp; omega)
     obtain ⟨a5, d5, rfl⟩ := hwin5.len
     have hbw := HWL.out.block
     have hE5 : Keeps (fun k => w.heap.size + 1 + 1 ≤ k) wB wZ := (Ext.keeps hk0).then hk5 (fun i hi h2 => by have := (hbw i h2).1; show _ ≤ i; omega)
     have b52 := ((B62.out.ext hk0).keeps hk5 (fun h2 => by have := (hbw _ h2).1; omega))
     obtain ⟨c52, z52⟩ := b52.reads
     have l52 := b52.lt
     have B52 := Lib.hid b52
     have hown5 : ∀ k, (A k ∨ (w.heap.size + 1 + 1 + 1 ≤ k ∧ k < w1.heap.size)) → ¬ Own (.slice aB LL.length dB) k := fun k hk h2 => by
      have := (hbw k h2).1
      rcases hk with hk | hk
      · exact absurd (HA.out k hk) (by omega)
      · omega
     have HRZ := Lib.hid (RowOf.append (HROB.out.mono (En' := ItemEn wZ (fun k => A k ∨ (w.heap.size + 1 + 1 + 1 ≤ k ∧ k < w1.heap.size))) fun c x h => ((h.keeps hk0 (fun _ _ => noB _)).mono (fun k hk => .inl hk)).keeps hk5 hown5) (RowOf.one (x := ⟨true, key, xb⟩) ⟨_, rfl, ((HBYB.out.ext hk0).mono (fun k hk => Or.inr hk)).keeps hk5 hown5⟩ rfl))
     have HEZ : Hid (Ext w wZ) := ((HEB.out.ext hk0).then hk5 (fun i hi h2 => by have := (hbw i h2).1; omega))
     have HWZ := Lib.hid hwin5
     have hZ : wB.heap.size ≤ wZ.heap.size := hE5.size
     have HZ := Lib.hid hZ
     clear hbw hZ
     refine oper_append_ran _ _ hr5 rfl rfl rfl ?_
     clear hr5 hwin5 hk5 ho5 b52
     refine hK _ _ ⟨ClsK.of (by assumption), ?_⟩; clear hK K; try simp only [nP]
     refine pR rfl (fun W => by go_simp <;> with_reducible rfl) ?_; simp only [nP]
     refine plan_nil ?_; simp only [tailL, List.filterMap_cons, List.filterMap_nil, nL]; change wpList _ _ _ (_ :: _ :: _ :: []) _ _
     go_wp2_with fail
     have r1 := (((B52.out.set 0 (.int .i64 (R.most : Int))).set 1 (.slice a5 (LL.length + 1) d5)).set 2 (.int .i64 ((R.lost : Int) + 1))).reads.1
     dsimp only [List.set_cons_zero, List.set_cons_succ] at r1
     clear c60 c61 c62 c52 z60 z61 z62 z52
     refine bodyPost_ret (v := .tuple #[.agg #[.int .i64 (R.most : Int), .slice a5 (LL.length + 1) d5, .int .i64 ((R.lost : Int) + 1)], .int .i64 1, .int .i64 0]) (by simp [results, Tryz.results86, go_sem, r1]) rfl ?_
     have hw5 := HWZ.out
     obtain ⟨f1, f2⟩ := rput_fin (A := A) (q := w.heap.size + 1 + 1) (most := R.most) (lost := R.lost + 1) (v := .slice a5 (LL.length + 1) d5) (z0 := .int .i64 (R.most : Int)) (z1 := .slice a5 (LL.length + 1) d5) (z2 := .int .i64 ((R.lost : Int) + 1)) (by simpa using hw5) HRZ.out HEZ.out (by omega) (by omega) (by omega) (fun k hk => by
      have := HEZ.out.size
      rcases hk with hk | hk
      · have := HA.out k hk; exact ⟨by omega, .inl hk⟩
      · have h4 := HZ.out; exact ⟨by omega, .inr ⟨by omega, by omega⟩⟩)
     exact RPutPost.mk (n := 1) (m := 0) HP2.out f1 f2
end
end Go.Proofs.YtoadjbgpfihoiaaGreatDoor
