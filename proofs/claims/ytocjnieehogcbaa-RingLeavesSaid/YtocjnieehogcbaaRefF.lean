/- The document's ring: Put of what is beside where its key is there; Put whole. Conditions: it lies as 'RefV' says. -/
import Derived.Test.YtocjnieehogcbaaRefE
set_option linter.unusedVariables false
set_option maxHeartbeats 400000
namespace Go.Proofs.Ytocjnieehogcbaa
open Go.RowKit


set_option maxHeartbeats 2000000 in
theorem rput_same {A B : Nat → Prop} (w : World) (v vx : Value) (R : AR) (key : Int) (xb : List UInt8) (i : Nat) (h : RefV w A v R) (hv : ItemV w B vx ⟨true, key, xb⟩) (hl : R.items.length ≤ 1000) (hm : R.most ≤ 1000) (hlost : R.lost ≤ 1000000) (hx : xb.length ≤ 1024)
    (hA : ∀ k, A k → k < w.heap.size) (hB : ∀ k, B k → k < w.heap.size) (h33 : R.items.findIdx? (p33 ⟨true, key, xb⟩) = some i) :
    Calls Try.prog 42 #[v, vx] w (RPutPost w A R ⟨true, key, xb⟩) := by
  have hf33 : findI (pside false key) R.items = i := by unfold findI; rw [← pside_p33 ⟨true, key, xb⟩ rfl, h33]
  obtain ⟨hi, -⟩ := findIdx_at h33
  have hput : R.put ⟨true, key, xb⟩ = ({ R with items := R.items.set i ⟨true, key, xb⟩, lost := R.lost + 1 }, 1, 0) := by
    unfold AR.put
    rw [if_neg (by simp), if_neg (by dsimp only; omega), h33]
  have HP := Lib.hid hput
  have F33 := Lib.hid hf33
  clear h33 hf33 hput
  have HR := Lib.hid h
  obtain ⟨sv, rfl, hs⟩ := h
  obtain ⟨a, c, rfl, -⟩ := hs.itAt
  obtain ⟨bx, rfl, hb⟩ := hv
  obtain ⟨a2, c2, rfl⟩ := hb.len
  have HS := Lib.hid hs
  have HA := Lib.hid hA
  have HB := Lib.hid hB
  dsimp only at hb ⊢
  have hng : ¬ (1024 < (xb.length : Int)) := by omega
  have e0 : Ext w ((((w.alloc (Obj.cells #[.int .i64 (R.most : Int), .slice a R.items.length c, .int .i64 (R.lost : Int)] 48)).alloc (Obj.cells #[.bool true, .int .i64 key, .slice a2 xb.length c2] 31)).alloc (Obj.cells #[.int .i64 0, .slice none 0 0, .int .i64 0] 48)).alloc (Obj.cells #[] 5)) := ((((Keeps.refl _ _).alloc _).alloc _).alloc _).alloc _
  obtain ⟨v1, w1, hr1, hwin1, hk1, ho1⟩ := append_bytes ((((w.alloc (Obj.cells #[.int .i64 (R.most : Int), .slice a R.items.length c, .int .i64 (R.lost : Int)] 48)).alloc (Obj.cells #[.bool true, .int .i64 key, .slice a2 xb.length c2] 31)).alloc (Obj.cells #[.int .i64 0, .slice none 0 0, .int .i64 0] 48)).alloc (Obj.cells #[] 5)) (w.heap.size + 1 + 1 + 1) (.slice (some ⟨w.heap.size + 1 + 1 + 1, 0, none⟩) 0 0) [] 29 (Win.empty (Nat.le_refl _) (by simp)) _ xb (hb.ext e0) (by simp; omega) (by simp)
  simp only [List.nil_append] at hwin1
  obtain ⟨a1, d1, rfl⟩ := hwin1.len
  have e1 : Ext w w1 := e0.then hk1 (fun i hi h2 => by have := own_eq h2; omega)
  have b0 := ((((Box.new w 48 [.int .i64 (R.most : Int), .slice a R.items.length c, .int .i64 (R.lost : Int)]).alloc (Obj.cells #[.bool true, .int .i64 key, .slice a2 xb.length c2] 31)).alloc (Obj.cells #[.int .i64 0, .slice none 0 0, .int .i64 0] 48)).alloc (Obj.cells #[] 5)).keeps hk1 (fun h2 => by have := own_eq h2; omega)
  have b1 := (((Box.new (w.alloc (Obj.cells #[.int .i64 (R.most : Int), .slice a R.items.length c, .int .i64 (R.lost : Int)] 48)) 31 [.bool true, .int .i64 key, .slice a2 xb.length c2]).alloc (Obj.cells #[.int .i64 0, .slice none 0 0, .int .i64 0] 48)).alloc (Obj.cells #[] 5)).keeps hk1 (fun h2 => by have := own_eq h2; simp at this)
  have b2 := ((Box.new ((w.alloc (Obj.cells #[.int .i64 (R.most : Int), .slice a R.items.length c, .int .i64 (R.lost : Int)] 48)).alloc (Obj.cells #[.bool true, .int .i64 key, .slice a2 xb.length c2] 31)) 48 [.int .i64 0, .slice none 0 0, .int .i64 0]).alloc (Obj.cells #[] 5)).keeps hk1 (fun h2 => by have := own_eq h2; simp at this)
  simp only [World.size_alloc] at b1 b2
  obtain ⟨c0, z0⟩ := b0.reads
  obtain ⟨c1, z1⟩ := b1.reads
  obtain ⟨q2, z2⟩ := b2.reads
  have l0 := b0.lt
  have l1 := b1.lt
  have l2 := b2.lt
  have eS : Ext w ((w1.setCell ⟨w.heap.size + 1, 2, none⟩ (.slice a1 xb.length d1)).alloc (Obj.cells #[] 31)) := (e1.setNew _ _ (by simp)).alloc _
  obtain ⟨cs, hrow, hsrc⟩ := items_row (hs.itExt eS)
  obtain ⟨v3, w3, hr3, hwin3, hk3, ho3⟩ := append_items (A := A) _ w1.heap.size (.slice (some ⟨w1.heap.size, 0, none⟩) 0 0) [] [] 46 (Win.empty (Nat.le_refl _) (by simp [World.setCell])) _ cs R.items hsrc hrow (by simp; omega) (by simp [World.setCell])
  simp only [List.nil_append] at hwin3
  obtain ⟨a3, d3, rfl⟩ := hwin3.len
  have b30 := ((b0.other ⟨w.heap.size + 1, 2, none⟩ (.slice a1 xb.length d1) (by simp)).alloc (Obj.cells #[] 31)).keeps hk3 (fun h2 => by have := own_eq h2; omega)
  have b31 := ((b1.set 2 (.slice a1 xb.length d1)).alloc (Obj.cells #[] 31)).keeps hk3 (fun h2 => by have := own_eq h2; omega)
  have b32 := ((b2.other ⟨w.heap.size + 1, 2, none⟩ (.slice a1 xb.length d1) (by simp)).alloc (Obj.cells #[] 31)).keeps hk3 (fun h2 => by have := own_eq h2; omega)
  dsimp only [List.set_cons_zero, List.set_cons_succ] at b31
  have e3 : Ext w w3 := eS.then hk3 (fun i hi h2 => by have := own_eq h2; omega)
  have hk13 : Keeps (fun k => k = w.heap.size + 1 ∨ k = w1.heap.size) w1 w3 := ((((Keeps.refl _ w1).setCell ⟨w.heap.size + 1, 2, none⟩ (.slice a1 xb.length d1) (.inl (.inl rfl)))).alloc (Obj.cells #[] 31)).then hk3 (fun i hi h2 => .inr (own_eq h2))
  have hby3 := (Bytes.of_win hwin1).keeps hk13 (fun k hk h2 => by have h3 := hk.1; have h4 := hk.2; rcases h2 with h2 | h2 <;> omega)
  have hrow3 := hrow.mono (En' := ItemEn w3 A) fun c x h => h.keeps hk3 (fun k hk h2 => by have := HA.out k hk; have := own_eq h2; omega)
  obtain ⟨c30, z30⟩ := b30.reads
  obtain ⟨c31, z31⟩ := b31.reads
  obtain ⟨c32, z32⟩ := b32.reads
  have l30 := b30.lt
  have l31 := b31.lt
  have l32 := b32.lt
  have HE3 := Lib.hid e3
  have HBY := Lib.hid hby3
  have HRO3 := Lib.hid hrow3
  have HK13 := Lib.hid hk13
  have BB0 := Lib.hid b30
  have BB1 := Lib.hid b31
  have BB2 := Lib.hid b32
  have HW1 := Lib.hid hwin1
  have HW3 := Lib.hid hwin3
  have HK3 := Lib.hid hk3
  have HRO := Lib.hid hrow
  have B0 := Lib.hid b0
  have B1 := Lib.hid b1
  have B2 := Lib.hid b2
  have HE1 := Lib.hid e1
  clear hs hb hA hB hwin1 hk1 ho1 e0 e1 hwin3 hk3 ho3 hrow hsrc b0 b1 b2 eS b30 b31 b32 e3 hk13 hby3 hrow3
  go_enter Try.func42, Try.ntmps42
  go_wp2_with (at_builtin; first | refine wpList_append_ran rfl _ _ hr1 rfl rfl rfl ?_ | refine wpList_append_ran rfl _ _ hr3 rfl rfl rfl ?_)
  refine (rside_any (A := A) w3 _ R false key (HR.out.ext HE3.out) hl (fun k hk => Nat.lt_of_lt_of_le (HA.out k hk) HE3.out.size)).mono ?_
  rintro e w4 ⟨rfl, hE4⟩
  rw [F33.out]
  have HE34 := Lib.hid hE4
  have HE4 := Lib.hid (HE3.out.ext hE4)
  have B40 := Lib.hid (BB0.out.ext hE4)
  have B41 := Lib.hid (BB1.out.ext hE4)
  have B42 := Lib.hid (BB2.out.ext hE4)
  obtain ⟨c40, z40⟩ := B40.out.reads
  obtain ⟨c41, z41⟩ := B41.out.reads
  obtain ⟨c42, z42⟩ := B42.out.reads
  have l40 := B40.out.lt
  have l41 := B41.out.lt
  have l42 := B42.out.lt
  have hw4 := HW3.out.ext hE4
  have HRO4 := Lib.hid (HRO3.out.mono (En' := ItemEn w4 A) fun c x h => h.keeps hE4 (fun _ _ => noB _))
  have HBY4 := Lib.hid (HBY.out.ext hE4)
  have hb14 : w1.heap.size ≤ w4.heap.size := by have h1 := hE4.size; have h2 := HK13.out.size; omega
  have gl : IntKind.i64.wrap ((R.lost : Int) + 1) = (R.lost : Int) + 1 := by rw [IntWalk.i64_in _ (by omega)]
  obtain ⟨g, o, cap, hv3, hg1, hg2, hg3, hg4⟩ := hw4.form (by omega)
  cases hv3
  obtain ⟨-, ⟨h, -⟩ | ⟨g', o', cap', h, -, -, -, -, hth, -⟩⟩ := hw4
  · cases h
  cases h
  have hW4 : Win w4 w1.heap.size 3 (.slice (some ⟨g, o, none⟩) R.items.length d3) R.items.length cs := HW3.out.ext hE4
  have i3 : (i + 1) * 3 ≤ R.items.length * 3 := Nat.mul_le_mul_right _ hi
  obtain ⟨u0, hu0⟩ := Option.isSome_iff_exists.1 (hth (i * 3) (by omega)).1
  obtain ⟨u1, hu1⟩ := Option.isSome_iff_exists.1 (hth (i * 3 + 1) (by omega)).1
  obtain ⟨u2, hu2⟩ := Option.isSome_iff_exists.1 (hth (i * 3 + 2) (by omega)).1
  have f0 := (hth (i * 3) (by omega)).2
  have f1 := (hth (i * 3 + 1) (by omega)).2
  have f2 := (hth (i * 3 + 2) (by omega)).2
  rw [← Nat.add_assoc] at hu1 hu2 f1 f2
  have hset := hW4.set i hi (c := [.bool true, .int .i64 key, .slice a1 xb.length d1]) rfl
  have hsk : Keeps (OneB g) w4 (w4.setCells g (o + i * 3) [.bool true, .int .i64 key, .slice a1 xb.length d1]) := (Keeps.refl _ _).setCells _ _ _ (.inl rfl)
  have hrs := (HRO4.out.mono (En' := ItemEn w4 (fun k => A k ∨ (w.heap.size + 1 + 1 + 1 ≤ k ∧ k < w1.heap.size))) fun c x h => h.mono fun k hk => .inl hk).set (x := ⟨true, key, xb⟩) ⟨_, rfl, HBY4.out.mono fun k hk => Or.inr hk⟩ (rfl : ([Value.bool true, .int .i64 key, .slice a1 xb.length d1] : List Value).length = 3) i hi
  have hrs2 := hrs.mono (En' := ItemEn (w4.setCells g (o + i * 3) [.bool true, .int .i64 key, .slice a1 xb.length d1]) (fun k => A k ∨ (w.heap.size + 1 + 1 + 1 ≤ k ∧ k < w1.heap.size))) fun c x h => h.keeps hsk fun k hk h2 => by
    unfold OneB at h2
    rcases hk with hk | hk
    · exact absurd (HA.out k hk) (by omega)
    · omega
  simp only [World.setCells] at hset hsk hrs2
  have b50 := B40.out.keeps hsk (fun h2 => by unfold OneB at h2; omega)
  have b51 := B41.out.keeps hsk (fun h2 => by unfold OneB at h2; omega)
  have b52 := B42.out.keeps hsk (fun h2 => by unfold OneB at h2; omega)
  have hE5 := HE4.out.then hsk (fun i hi h2 => by unfold OneB at h2; omega)
  obtain ⟨c50, z50⟩ := b50.reads
  obtain ⟨c51, z51⟩ := b51.reads
  obtain ⟨c52, z52⟩ := b52.reads
  have HSET := Lib.hid hset
  have HROS := Lib.hid hrs2
  have HB52 := Lib.hid b52
  have HE5 := Lib.hid hE5
  have HSK := Lib.hid hsk
  have gi : ¬ ((i : Int) < 0) := by omega
  have gi0 : (0 : Int) ≤ (i : Int) := by omega
  have gi1 : (i : Int) < (R.items.length : Int) := by omega
  clear hE4 c0 c1 q2 z0 z1 z2 c30 c31 c32 z30 z31 z32 hr1 hr3 hset hrs hrs2 hsk hth hg4 b50 b51 b52 hE5 hW4
  go_wp2_with fail
  obtain ⟨w5, h5⟩ : ∃ w5, ((w4.setCell ⟨g, o + i * 3, none⟩ (Value.bool true)).setCell ⟨g, o + i * 3 + 1, none⟩ (Value.int IntKind.i64 key)).setCell ⟨g, o + i * 3 + 2, none⟩ (Value.slice a1 xb.length d1) = w5 := ⟨_, rfl⟩
  have k1 : Win w5 w1.heap.size 3 (.slice (some ⟨g, o, none⟩) R.items.length d3) R.items.length (cs.take (i * 3) ++ ([.bool true, .int .i64 key, .slice a1 xb.length d1] ++ cs.drop ((i + 1) * 3))) := by rw [← h5]; exact HSET.out
  have k2 : RowOf 3 (ItemEn w5 (fun k => A k ∨ (w.heap.size + 1 + 1 + 1 ≤ k ∧ k < w1.heap.size))) (cs.take (i * 3) ++ ([.bool true, .int .i64 key, .slice a1 xb.length d1] ++ cs.drop ((i + 1) * 3))) (R.items.set i ⟨true, key, xb⟩) := by rw [← h5]; exact HROS.out
  have k3 : Box w5 (w.heap.size + 1 + 1) 48 [.int .i64 0, .slice none 0 0, .int .i64 0] := by rw [← h5]; exact HB52.out
  have k4 : Ext w w5 := by rw [← h5]; exact HE5.out
  have k5 : w4.heap.size ≤ w5.heap.size := by rw [← h5]; exact HSK.out.size
  rw [h5]
  have r1 := (((k3.set 0 (.int .i64 (R.most : Int))).set 1 (.slice (some ⟨g, o, none⟩) R.items.length d3)).set 2 (.int .i64 ((R.lost : Int) + 1))).reads.1
  dsimp only [List.set_cons_zero, List.set_cons_succ] at r1
  clear c50 c51 c52 z50 z51 z52 c40 c41 c42 z40 z41 z42 hu0 hu1 hu2 f0 f1 f2 h5
  refine bodyPost_ret (v := .tuple #[.agg #[.int .i64 (R.most : Int), .slice (some ⟨g, o, none⟩) R.items.length d3, .int .i64 ((R.lost : Int) + 1)], .int .i64 1, .int .i64 0]) (by simp [results, Try.results42, go_sem, r1]) rfl ?_
  have hlen : R.items.length = (R.items.set i ⟨true, key, xb⟩).length := by simp
  obtain ⟨f1, f2⟩ := rput_fin (A := A) (q := w.heap.size + 1 + 1) (most := R.most) (lost := R.lost + 1) (v := .slice (some ⟨g, o, none⟩) R.items.length d3) (z0 := .int .i64 (R.most : Int)) (z1 := .slice (some ⟨g, o, none⟩) R.items.length d3) (z2 := .int .i64 ((R.lost : Int) + 1)) (by rw [← hlen]; exact k1) k2 k4 (by omega) (by omega) (by omega) (fun k hk => by
    rcases hk with hk | hk
    · have := HA.out k hk; exact ⟨by omega, .inl hk⟩
    · exact ⟨by omega, .inr ⟨by omega, by omega⟩⟩)
  exact RPutPost.mk (n := 1) (m := 0) HP.out f1 f2

/-- Put, whatever comes -/
theorem rput_any {A B : Nat → Prop} (w : World) (v vx : Value) (R : AR) (x : It) (h : RefV w A v R) (hv : ItemV w B vx x) (hl : R.items.length ≤ 1000) (hm : R.most ≤ 1000) (hlost : R.lost ≤ 1000000) (hx : x.bytes.length ≤ 1000000)
    (hA : ∀ k, A k → k < w.heap.size) (hB : ∀ k, B k → k < w.heap.size) : Calls Try.prog 42 #[v, vx] w (RPutPost w A R x) := by
  by_cases h1 : x.side = false ∧ x.key ≠ 0
  · exact rput_early w v vx R x h hv hx (.inl h1)
  by_cases h2 : 1024 < x.bytes.length
  · exact rput_early w v vx R x h hv hx (.inr ⟨h1, h2⟩)
  obtain ⟨xs, xk, xb⟩ := x
  dsimp only at h1 h2 hx
  cases xs with
  | false =>
    have hk0 : xk = 0 := by simpa using h1
    subst hk0
    exact rput_main w v vx R 0 xb h hv hl hm hlost (by omega) hA hB (p33_main _ _ rfl)
  | true =>
    cases h33 : R.items.findIdx? (p33 ⟨true, xk, xb⟩) with
    | none => exact rput_side w v vx R xk xb h hv hl hm hlost (by omega) hA hB h33
    | some i => exact rput_same w v vx R xk xb i h hv hl hm hlost (by omega) hA hB h33
end Go.Proofs.Ytocjnieehogcbaa
