/- Texts RefF, RefX, Same, Collect, Copy, CopyB, RSame, RR, SessL, Does, one behind the other. Conditions: as each says. -/
import Derived.Test.YtoadjbgpfihoiaaGreatDoorRaP
import Derived.Test.YtoadjbgpfihoiaaGreatDoorRaT
import Derived.BigFrameIn
import Derived.RegionTactic
set_option linter.unusedVariables false
set_option linter.unusedSimpArgs false
set_option maxHeartbeats 8000000
set_option maxRecDepth 100000
namespace Go.Proofs.YtoadjbgpfihoiaaGreatDoor
open Go.RowKit
section
set_option maxHeartbeats 2000000 in
theorem rput_same {A B : Nat → Prop} (w : World) (v vx : Value) (R : AR) (key : Int) (xb : List UInt8) (i : Nat) (h : RefV w A v R) (hv : ItemV w B vx ⟨true, key, xb⟩) (hl : R.items.length ≤ 1000) (hm : R.most ≤ 1000) (hlost : R.lost ≤ 1000000) (hx : xb.length ≤ 1024)
 (hA : ∀ k, A k → k < w.heap.size) (hB : ∀ k, B k → k < w.heap.size) (h33 : R.items.findIdx? (p33 ⟨true, key, xb⟩) = some i) :
 Calls Tryz.prog 86 #[v, vx] w (RPutPost w A R ⟨true, key, xb⟩) := by
 have hf33 : findI (pside false key) R.items = i := by unfold findI; rw [← pside_p33 ⟨true, key, xb⟩ rfl, h33]
 obtain ⟨hi, -⟩ := findIdx_at h33
 have hput : R.put ⟨true, key, xb⟩ = ({ R with items := R.items.set i ⟨true, key, xb⟩, lost := R.lost + 1 }, 1, 0) := by
  unfold AR.put
  rw [if_neg (by simp), if_neg (by dsimp only; omega), h33]
 have HP := Lib.hid hput
 have F33 := Lib.hid hf33
 clear h33 hf33 hput
 have HR := Lib.hid h
 obtain ⟨sv, rfl, hs⟩ := h
 obtain ⟨a, c, rfl, -⟩ := hs.itAt
 obtain ⟨bx, rfl, hb⟩ := hv
 obtain ⟨a2, c2, rfl⟩ := hb.len
 have HS := Lib.hid hs
 have HA := Lib.hid hA
 have HB := Lib.hid hB
 dsimp only at hb ⊢
 have hng : ¬ (1024 < (xb.length : Int)) := by omega
 have e0 : Ext w ((((w.alloc (Obj.cells #[.int .i64 (R.most : Int), .slice a R.items.length c, .int .i64 (R.lost : Int)] 71)).alloc (Obj.cells #[.bool true, .int .i64 key, .slice a2 xb.length c2] 152)).alloc (Obj.cells #[.int .i64 0, .slice none 0 0, .int .i64 0] 71)).alloc (Obj.cells #[] 5)) := ((((Keeps.refl _ _).alloc _).alloc _).alloc _).alloc _
 obtain ⟨v1, w1, hr1, hwin1, hk1, ho1⟩ := append_bytes ((((w.alloc (Obj.cells #[.int .i64 (R.most : Int), .slice a R.items.length c, .int .i64 (R.lost : Int)] 71)).alloc (Obj.cells #[.bool true, .int .i64 key, .slice a2 xb.length c2] 152)).alloc (Obj.cells #[.int .i64 0, .slice none 0 0, .int .i64 0] 71)).alloc (Obj.cells #[] 5)) (w.heap.size + 1 + 1 + 1) (.slice (some ⟨w.heap.size + 1 + 1 + 1, 0, none⟩) 0 0) [] 27 (Win.empty (Nat.le_refl _) (by simp)) _ xb (hb.ext e0) (by simp; omega) (by simp)
 simp only [List.nil_append] at hwin1
 obtain ⟨a1, d1, rfl⟩ := hwin1.len
 have e1 : Ext w w1 := e0.then hk1 (fun i hi h2 => by have := own_eq h2; omega)
 have b0 := ((((Box.new w 71 [.int .i64 (R.most : Int), .slice a R.items.length c, .int .i64 (R.lost : Int)]).alloc (Obj.cells #[.bool true, .int .i64 key, .slice a2 xb.length c2] 152)).alloc (Obj.cells #[.int .i64 0, .slice none 0 0, .int .i64 0] 71)).alloc (Obj.cells #[] 5)).keeps hk1 (fun h2 => by have := own_eq h2; omega)
 have b1 := (((Box.new (w.alloc (Obj.cells #[.int .i64 (R.most : Int), .slice a R.items.length c, .int .i64 (R.lost : Int)] 71)) 152 [.bool true, .int .i64 key, .slice a2 xb.length c2]).alloc (Obj.cells #[.int .i64 0, .slice none 0 0, .int .i64 0] 71)).alloc (Obj.cells #[] 5)).keeps hk1 (fun h2 => by have := own_eq h2; simp at this)
 have b2 := ((Box.new ((w.alloc (Obj.cells #[.int .i64 (R.most : Int), .slice a R.items.length c, .int .i64 (R.lost : Int)] 71)).alloc (Obj.cells #[.bool true, .int .i64 key, .slice a2 xb.length c2] 152)) 71 [.int .i64 0, .slice none 0 0, .int .i64 0]).alloc (Obj.cells #[] 5)).keeps hk1 (fun h2 => by have := own_eq h2; simp at this)
 simp only [World.size_alloc] at b1 b2
 obtain ⟨c0, z0⟩ := b0.reads
 obtain ⟨c1, z1⟩ := b1.reads
 obtain ⟨q2, z2⟩ := b2.reads
 have l0 := b0.lt
 have l1 := b1.lt
 have l2 := b2.lt
 have eS : Ext w ((w1.setCell ⟨w.heap.size + 1, 2, none⟩ (.slice a1 xb.length d1)).alloc (Obj.cells #[] 152)) := (e1.setNew _ _ (by simp)).alloc _
 obtain ⟨cs, hrow, hsrc⟩ := items_row (hs.itExt eS)
 obtain ⟨v3, w3, hr3, hwin3, hk3, ho3⟩ := append_items (A := A) _ w1.heap.size (.slice (some ⟨w1.heap.size, 0, none⟩) 0 0) [] [] 69 (Win.empty (Nat.le_refl _) (by simp [World.setCell])) _ cs R.items hsrc hrow (by simp; omega) (by simp [World.setCell])
 simp only [List.nil_append] at hwin3
 obtain ⟨a3, d3, rfl⟩ := hwin3.len
 have b30 := ((b0.other ⟨w.heap.size + 1, 2, none⟩ (.slice a1 xb.length d1) (by simp)).alloc (Obj.cells #[] 152)).keeps hk3 (fun h2 => by have := own_eq h2; omega)
 have b31 := ((b1.set 2 (.slice a1 xb.length d1)).alloc (Obj.cells #[] 152)).keeps hk3 (fun h2 => by have := own_eq h2; omega)
 have b32 := ((b2.other ⟨w.heap.size + 1, 2, none⟩ (.slice a1 xb.length d1) (by simp)).alloc (Obj.cells #[] 152)).keeps hk3 (fun h2 => by have := own_eq h2; omega)
 dsimp only [List.set_cons_zero, List.set_cons_succ] at b31
 have e3 : Ext w w3 := eS.then hk3 (fun i hi h2 => by have := own_eq h2; omega)
 have hk13 : Keeps (fun k => k = w.heap.size + 1 ∨ k = w1.heap.size) w1 w3 := ((((Keeps.refl _ w1).setCell ⟨w.heap.size + 1, 2, none⟩ (.slice a1 xb.length d1) (.inl (.inl rfl)))).alloc (Obj.cells #[] 152)).then hk3 (fun i hi h2 => .inr (own_eq h2))
 have hby3 := (Bytes.of_win hwin1).keeps hk13 (fun k hk h2 => by have h3 := hk.1; have h4 := hk.2; rcases h2 with h2 | h2 <;> omega)
 have hrow3 := hrow.mono (En' := ItemEn w3 A) fun c x h => h.keeps hk3 (fun k hk h2 => by have := HA.out k hk; have := own_eq h2; omega)
 obtain ⟨c30, z30⟩ := b30.reads
 obtain ⟨c31, z31⟩ := b31.reads
 obtain ⟨c32, z32⟩ := b32.reads
 have l30 := b30.lt
 have l31 := b31.lt
 have l32 := b32.lt
 have HE3 := Lib.hid e3
 have HBY := Lib.hid hby3
 have HRO3 := Lib.hid hrow3
 have HK13 := Lib.hid hk13
 have BB0 := Lib.hid b30
 have BB1 := Lib.hid b31
 have BB2 := Lib.hid b32
 have HW1 := Lib.hid hwin1
 have HW3 := Lib.hid hwin3
 have HK3 := Lib.hid hk3
 have HRO := Lib.hid hrow
 have B0 := Lib.hid b0
 have B1 := Lib.hid b1
 have B2 := Lib.hid b2
 have HE1 := Lib.hid e1
 clear hs hb hA hB hwin1 hk1 ho1 e0 e1 hwin3 hk3 ho3 hrow hsrc b0 b1 b2 eS b30 b31 b32 e3 hk13 hby3 hrow3
 go_enter Tryz.func86, Tryz.ntmps86
 go_wp2_with (at_builtin; first | refine wpList_append_ran rfl _ _ hr1 rfl rfl rfl ?_ | refine wpList_append_ran rfl _ _ hr3 rfl rfl rfl ?_)
 refine (rside_any (A := A) w3 _ R false key (HR.out.ext HE3.out) hl (fun k hk => Nat.lt_of_lt_of_le (HA.out k hk) HE3.out.size)).mono ?_
 rintro e w4 ⟨rfl, hE4⟩
 rw [F33.out]
 have HE34 := Lib.hid hE4
 have HE4 := Lib.hid (HE3.out.ext hE4)
 have B40 := Lib.hid (BB0.out.ext hE4)
 have B41 := Lib.hid (BB1.out.ext hE4)
 have B42 := Lib.hid (BB2.out.ext hE4)
 obtain ⟨c40, z40⟩ := B40.out.reads
 obtain ⟨c41, z41⟩ := B41.out.reads
 obtain ⟨c42, z42⟩ := B42.out.reads
 have l40 := B40.out.lt
 have l41 := B41.out.lt
 have l42 := B42.out.lt
 have hw4 := HW3.out.ext hE4
 have HRO4 := Lib.hid (HRO3.out.mono (En' := ItemEn w4 A) fun c x h => h.keeps hE4 (fun _ _ => noB _))
 have HBY4 := Lib.hid (HBY.out.ext hE4)
 have hb14 : w1.heap.size ≤ w4.heap.size := by have h1 := hE4.size; have h2 := HK13.out.size; omega
 have gl : IntKind.i64.wrap ((R.lost : Int) + 1) = (R.lost : Int) + 1 := by rw [IntWalk.i64_in _ (by omega)]
 obtain ⟨g, o, cap, hv3, hg1, hg2, hg3, hg4⟩ := hw4.form (by omega)
 cases hv3
 obtain ⟨-, ⟨h, -⟩ | ⟨g', o', cap', h, -, -, -, -, hth, -⟩⟩ := hw4
 · cases h
 cases h
 have hW4 : Win w4 w1.heap.size 3 (.slice (some ⟨g, o, none⟩) R.items.length d3) R.items.length cs := HW3.out.ext hE4
 have i3 : (i + 1) * 3 ≤ R.items.length * 3 := Nat.mul_le_mul_right _ hi
 obtain ⟨u0, hu0⟩ := Option.isSome_iff_exists.1 (hth (i * 3) (by omega)).1
 obtain ⟨u1, hu1⟩ := Option.isSome_iff_exists.1 (hth (i * 3 + 1) (by omega)).1
 obtain ⟨u2, hu2⟩ := Option.isSome_iff_exists.1 (hth (i * 3 + 2) (by omega)).1
 have f0 := (hth (i * 3) (by omega)).2
 have f1 := (hth (i * 3 + 1) (by omega)).2
 have f2 := (hth (i * 3 + 2) (by omega)).2
 rw [← Nat.add_assoc] at hu1 hu2 f1 f2
 have hset := hW4.set i hi (c := [.bool true, .int .i64 key, .slice a1 xb.length d1]) rfl
 have hsk : Keeps (OneB g) w4 (w4.setCells g (o + i * 3) [.bool true, .int .i64 key, .slice a1 xb.length d1]) := (Keeps.refl _ _).setCells _ _ _ (.inl rfl)
 have hrs := (HRO4.out.mono (En' := ItemEn w4 (fun k => A k ∨ (w.heap.size + 1 + 1 + 1 ≤ k ∧ k < w1.heap.size))) fun c x h => h.mono fun k hk => .inl hk).set (x := ⟨true, key, xb⟩) ⟨_, rfl, HBY4.out.mono fun k hk => Or.inr hk⟩ (rfl : ([Value.bool true, .int .i64 key, .slice a1 xb.length d1] : List Value).length = 3) i hi
 have hrs2 := hrs.mono (En' := ItemEn (w4.setCells g (o + i * 3) [.bool true, .int .i64 key, .slice a1 xb.length d1]) (fun k => A k ∨ (w.heap.size + 1 + 1 + 1 ≤ k ∧ k < w1.heap.size))) fun c x h => h.keeps hsk fun k hk h2 => by
  unfold OneB at h2
  rcases hk with hk | hk
  · exact absurd (HA.out k hk) (by omega)
  · omega
 simp only [World.setCells] at hset hsk hrs2
 have b50 := B40.out.keeps hsk (fun h2 => by unfold OneB at h2; omega)
 have b51 := B41.out.keeps hsk (fun h2 => by unfold OneB at h2; omega)
 have b52 := B42.out.keeps hsk (fun h2 => by unfold OneB at h2; omega)
 have hE5 := HE4.out.then hsk (fun i hi h2 => by unfold OneB at h2; omega)
 obtain ⟨c50, z50⟩ := b50.reads
 obtain ⟨c51, z51⟩ := b51.reads
 obtain ⟨c52, z52⟩ := b52.reads
 have HSET := Lib.hid hset
 have HROS := Lib.hid hrs2
 have HB52 := Lib.hid b52
 have HE5 := Lib.hid hE5
 have HSK := Lib.hid hsk
 have gi : ¬ ((i : Int) < 0) := by omega
 have gi0 : (0 : Int) ≤ (i : Int) := by omega
 have gi1 : (i : Int) < (R.items.length : Int) := by omega
 clear hE4 c0 c1 q2 z0 z1 z2 c30 c31 c32 z30 z31 z32 hr1 hr3 hset hrs hrs2 hsk hth hg4 b50 b51 b52 hE5 hW4
 go_wp2_with fail
 obtain ⟨w5, h5⟩ : ∃ w5, ((w4.setCell ⟨g, o + i * 3, none⟩ (Value.bool true)).setCell ⟨g, o + i * 3 + 1, none⟩ (Value.int IntKind.i64 key)).setCell ⟨g, o + i * 3 + 2, none⟩ (Value.slice a1 xb.length d1) = w5 := ⟨_, rfl⟩
 have k1 : Win w5 w1.heap.size 3 (.slice (some ⟨g, o, none⟩) R.items.length d3) R.items.length (cs.take (i * 3) ++ ([.bool true, .int .i64 key, .slice a1 xb.length d1] ++ cs.drop ((i + 1) * 3))) := by rw [← h5]; exact HSET.out
 have k2 : RowOf 3 (ItemEn w5 (fun k => A k ∨ (w.heap.size + 1 + 1 + 1 ≤ k ∧ k < w1.heap.size))) (cs.take (i * 3) ++ ([.bool true, .int .i64 key, .slice a1 xb.length d1] ++ cs.drop ((i + 1) * 3))) (R.items.set i ⟨true, key, xb⟩) := by rw [← h5]; exact HROS.out
 have k3 : Box w5 (w.heap.size + 1 + 1) 71 [.int .i64 0, .slice none 0 0, .int .i64 0] := by rw [← h5]; exact HB52.out
 have k4 : Ext w w5 := by rw [← h5]; exact HE5.out
 have k5 : w4.heap.size ≤ w5.heap.size := by rw [← h5]; exact HSK.out.size
 rw [h5]
 have r1 := (((k3.set 0 (.int .i64 (R.most : Int))).set 1 (.slice (some ⟨g, o, none⟩) R.items.length d3)).set 2 (.int .i64 ((R.lost : Int) + 1))).reads.1
 dsimp only [List.set_cons_zero, List.set_cons_succ] at r1
 clear c50 c51 c52 z50 z51 z52 c40 c41 c42 z40 z41 z42 hu0 hu1 hu2 f0 f1 f2 h5
 refine bodyPost_ret (v := .tuple #[.agg #[.int .i64 (R.most : Int), .slice (some ⟨g, o, none⟩) R.items.length d3, .int .i64 ((R.lost : Int) + 1)], .int .i64 1, .int .i64 0]) (by simp [results, Tryz.results86, go_sem, r1]) rfl ?_
 have hlen : R.items.length = (R.items.set i ⟨true, key, xb⟩).length := by simp
 obtain ⟨f1, f2⟩ := rput_fin (A := A) (q := w.heap.size + 1 + 1) (most := R.most) (lost := R.lost + 1) (v := .slice (some ⟨g, o, none⟩) R.items.length d3) (z0 := .int .i64 (R.most : Int)) (z1 := .slice (some ⟨g, o, none⟩) R.items.length d3) (z2 := .int .i64 ((R.lost : Int) + 1)) (by rw [← hlen]; exact k1) k2 k4 (by omega) (by omega) (by omega) (fun k hk => by
  rcases hk with hk | hk
  · have := HA.out k hk; exact ⟨by omega, .inl hk⟩
  · exact ⟨by omega, .inr ⟨by omega, by omega⟩⟩)
 exact RPutPost.mk (n := 1) (m := 0) HP.out f1 f2
theorem rput_any {A B : Nat → Prop} (w : World) (v vx : Value) (R : AR) (x : It) (h : RefV w A v R) (hv : ItemV w B vx x) (hl : R.items.length ≤ 1000) (hm : R.most ≤ 1000) (hlost : R.lost ≤ 1000000) (hx : x.bytes.length ≤ 1000000)
 (hA : ∀ k, A k → k < w.heap.size) (hB : ∀ k, B k → k < w.heap.size) : Calls Tryz.prog 86 #[v, vx] w (RPutPost w A R x) := by
 by_cases h1 : x.side = false ∧ x.key ≠ 0
 · exact rput_early w v vx R x h hv hx (.inl h1)
 by_cases h2 : 1024 < x.bytes.length
 · exact rput_early w v vx R x h hv hx (.inr ⟨h1, h2⟩)
 obtain ⟨xs, xk, xb⟩ := x
 dsimp only at h1 h2 hx
 cases xs with
 | false =>
   have hk0 : xk = 0 := by simpa using h1
   subst hk0
   exact rput_main w v vx R 0 xb h hv hl hm hlost (by omega) hA hB (p33_main _ _ rfl)
 | true =>
   cases h33 : R.items.findIdx? (p33 ⟨true, xk, xb⟩) with
   | none => exact rput_side w v vx R xk xb h hv hl hm hlost (by omega) hA hB h33
   | some i => exact rput_same w v vx R xk xb i h hv hl hm hlost (by omega) hA hB h33
end
section
def RefX (w : World) (M : Nat → Prop) (v : Value) (R : AR) : Prop := ∃ A, RefV w A v R ∧ ∀ k, A k → k < w.heap.size ∧ ¬ M k
section
variable {w w' : World} {S M M' : Nat → Prop} {v : Value} {R : AR}
theorem RefX.keeps (h : RefX w M v R) (hk : Keeps S w w') (hs : ∀ k, k < w.heap.size → S k → M k) : RefX w' M v R :=
 let ⟨A, h1, h2⟩ := h
 ⟨A, h1.keeps hk fun k ha hS => (h2 k ha).2 (hs k (h2 k ha).1 hS), fun k ha => ⟨Nat.lt_of_lt_of_le (h2 k ha).1 hk.size, (h2 k ha).2⟩⟩
theorem RefX.ext (h : RefX w M v R) (hk : Ext w w') : RefX w' M v R := h.keeps hk fun _ _ h => (noB _ h).elim
theorem RefX.of {A : Nat → Prop} (h : RefV w A v R) (hA : ∀ k, A k → k < w.heap.size ∧ ¬ M k) : RefX w M v R := ⟨A, h, hA⟩
theorem RefX.put {w0 : World} {A : Nat → Prop} (h : RefV w (fun k => A k ∨ (w0.heap.size ≤ k ∧ k < w.heap.size)) v R) (hA : ∀ k, A k → k < w0.heap.size ∧ ¬ M k) (hM : ∀ k, M k → k < w0.heap.size) (hs : w0.heap.size ≤ w.heap.size) : RefX w M v R :=
 ⟨_, h, fun k hk => by
  rcases hk with hk | hk
  · exact ⟨Nat.lt_of_lt_of_le (hA k hk).1 hs, (hA k hk).2⟩
  · exact ⟨hk.2, fun hm => absurd (hM k hm) (by omega)⟩⟩
theorem RefX.len (h : RefX w M v R) : ∃ a c, v = .agg #[.int .i64 (R.most : Int), .slice a R.items.length c, .int .i64 (R.lost : Int)] := by
 obtain ⟨A, ⟨sv, rfl, hs⟩, -⟩ := h
 obtain ⟨a, c, rfl, -⟩ := hs.itAt
 exact ⟨_, _, rfl⟩
end
theorem RefX.itAt {w : World} {M : Nat → Prop} {R : AR} {a : Option Addr} {n c : Nat} {z0 z1 : Value} (h : RefX w M (.agg #[z0, .slice a n c, z1]) R) :
 n = R.items.length ∧ ∀ i (hi : i < R.items.length), ∃ A b o, a = some ⟨b, o, none⟩ ∧ R.items.length ≤ c ∧ b < w.heap.size ∧ ItemAt w A b (o + i * 3) R.items[i] := by
 obtain ⟨A, ⟨sv, he, hs⟩, hA⟩ := h
 obtain ⟨a', c', rfl, hat⟩ := hs.itAt
 simp only [Value.agg.injEq, Array.mk.injEq, List.cons.injEq, Value.slice.injEq] at he
 obtain ⟨-, ⟨rfl, rfl, rfl⟩, -⟩ := he
 refine ⟨rfl, fun i hi => ?_⟩
 obtain ⟨b, o, h1, h2, h3, h4⟩ := hat i hi
 exact ⟨A, b, o, h1, h2, (hA b h3).1, h4⟩
end
section

end
section
attribute [local go_sem] Oper.semAt_some
end
section
attribute [local go_sem] Oper.semAt_some
theorem SeqAt.lt {w : World} {A : Nat → Prop} {bx : Nat} {l : List It} (h : SeqAt w A bx l) : bx < w.heap.size := let ⟨_, h1, _⟩ := h; World.block_lt_of_cell? _ _ h1
end
section
attribute [local go_sem] Oper.semAt_some
end
section

end
section
def ringR (b : Nat) (R : AR) : Res := anyR (fun F w => ∃ f A, RingAt w A b f R ∧ ¬ A b ∧ (∀ k, A k → k < w.heap.size) ∧ ∀ k, F k ↔ A k ∨ k = b)
 (fun ⟨f, A, h1, h2, h3, h4⟩ hk hs => ⟨f, A, h1.keeps hk (hs b ((h4 b).2 (.inr rfl))) (fun k ha => hs k ((h4 k).2 (.inl ha))), h2, fun k ha => Nat.lt_of_lt_of_le (h3 k ha) hk.size, h4⟩)
 (fun ⟨f, A, h1, h2, h3, h4⟩ k hk => ((h4 k).1 hk).elim (h3 k) fun e => e ▸ h1.lt)
theorem ringR.x {b : Nat} {R : AR} {C : Nat → Prop} {w : World} (h : (ringR b R).p C w) : RingX w (fun k => ¬ C k) b R :=
 let ⟨f, A, h1, h2, h3, h4⟩ := h
 ⟨f, A, h1, h2, fun k hk => ⟨h3 k hk, fun hn => hn ((h4 k).2 (.inl hk))⟩⟩
theorem ringR.own {b : Nat} {R : AR} {C : Nat → Prop} {w : World} (h : (ringR b R).p C w) : C b := let ⟨f, A, h1, h2, h3, h4⟩ := h; (h4 b).2 (.inr rfl)
theorem ringR.upd {b : Nat} {R' : AR} {C A A' : Nat → Prop} {f' : Nat} {w w' : World} (hC : ∀ k, C k ↔ A k ∨ k = b) (hb : ¬ A' b) (hA' : ∀ k, A' k → A k ∨ (w.heap.size ≤ k ∧ k < w'.heap.size)) (hA : ∀ k, A k → k < w.heap.size)
 (h : RingAt w' A' b f' R') (hk : Keeps (OneB b) w w') : Upd C w w' (ringR b R') :=
 ⟨fun k => A' k ∨ k = b, ⟨f', A', h, hb, fun k hk' => (hA' k hk').elim (fun g => Nat.lt_of_lt_of_le (hA k g) hk.size) (·.2), fun k => Iff.rfl⟩, hk.mono fun k _ h => (hC k).2 (.inr h), fun k hk' => by
  rcases hk' with hk' | hk'
  · exact (hA' k hk').elim (fun g => .inl ((hC k).2 (.inl g))) fun g => .inr g.1
  · exact .inl ((hC k).2 (.inr hk'))⟩
theorem put_r {C B : Nat → Prop} (w : World) (b : Nat) (R : AR) (x : It) (v : Value) (h : (ringR b R).p C w) (hv : ItemV w B v x) (hB : ¬ B b) (hx : x.bytes.length ≤ 1000000) (hlost : R.lost ≤ 1000000) :
 Calls Tryz.prog 93 #[.pointer (some ⟨b, 0, none⟩), v] w fun e w' => e = .returned (.tuple #[.int .i64 ((R.put x).2.1 : Nat), .int .i64 ((R.put x).2.2 : Nat)]) ∧ Upd C w w' (ringR b (R.put x).1) := by
 obtain ⟨f, A, h1, h2, h3, h4⟩ := h
 have hbl := h1.lt
 refine (put_ring w b f R x v h1 h2 hv hB hx hlost).mono fun e w' ⟨e1, e2, e3⟩ => ⟨e1, ringR.upd h4 ?_ (fun k hk => hk) h3 e2 e3⟩
 rintro (hk | hk)
 · exact h2 hk
 · omega
theorem take_r {C : Nat → Prop} (w : World) (b m l : Nat) (x : It) (r : List It) (h : (ringR b ⟨m, l, x :: r⟩).p C w) :
 Calls Tryz.prog 108 #[.pointer (some ⟨b, 0, none⟩)] w fun e w' => ∃ v, e = .returned (.tuple #[v, .bool true]) ∧ ItemV w' (fun k => C k ∧ k ≠ b) v x ∧ Upd C w w' (ringR b ⟨m, l, r⟩) := by
 obtain ⟨f, A, h1, h2, h3, h4⟩ := h
 refine (take_ring w b f m l x r h1 h2 h3).mono fun e w' ⟨v, e1, e2, e3, e4⟩ => ⟨v, e1, e2.mono fun k hk => ⟨(h4 k).2 (.inl hk), fun e => h2 (e ▸ hk)⟩, ringR.upd h4 h2 (fun k hk => .inl hk) h3 e3 e4⟩
theorem take_r0 {C : Nat → Prop} (w : World) (b m l : Nat) (h : (ringR b ⟨m, l, []⟩).p C w) :
 Calls Tryz.prog 108 #[.pointer (some ⟨b, 0, none⟩)] w fun e w' => e = .returned (.tuple #[.agg #[.bool false, .int .i64 0, .slice none 0 0], .bool false]) ∧ Ext w w' := by
 obtain ⟨f, A, h1, h2, h3, h4⟩ := h
 exact take_empty w b f m l h1
theorem clear_r {C : Nat → Prop} (w : World) (b m l : Nat) (its : List It) (h : (ringR b ⟨m, l, its⟩).p C w) :
 Calls Tryz.prog 103 #[.pointer (some ⟨b, 0, none⟩)] w fun e w' => e = .returned (.int .i64 (its.length : Nat)) ∧ Upd C w w' (ringR b ⟨m, l, []⟩) := by
 obtain ⟨f, A, h1, h2, h3, h4⟩ := h
 exact (clear_ring w b f m l its h1 h2 h3).mono fun e w' ⟨e1, ⟨f', e2⟩, e3⟩ => ⟨e1, ringR.upd h4 h2 (fun k hk => .inl hk) h3 e2 e3⟩
theorem len_r {C : Nat → Prop} (w : World) (b : Nat) (R : AR) (h : (ringR b R).p C w) (hx : ∀ x ∈ R.items, x.bytes.length ≤ 1000000) :
 Calls Tryz.prog 104 #[.pointer (some ⟨b, 0, none⟩)] w (LenPost w R.items) := by
 obtain ⟨f, A, h1, h2, h3, h4⟩ := h
 exact len_ring w b f R h1 hx
theorem new_r (w : World) (m : Nat) (h1 : 1 ≤ m) (h2 : m ≤ 64) :
 Calls Tryz.prog 76 #[.int .i64 (m : Int)] w fun e w' => ∃ b, e = .returned (.tuple #[.pointer (some ⟨b, 0, none⟩), .int .i64 0]) ∧ Upd NoB w w' (ringR b ⟨m, 0, []⟩) :=
 (new_yes w m h1 h2).mono fun e w' ⟨e1, e2, e3⟩ => ⟨_, e1, fun k => False ∨ k = w.heap.size, ⟨0, _, e2, fun h => h, fun _ h => h.elim, fun k => Iff.rfl⟩, e3, fun k hk => by
  rcases hk with hk | hk
  · exact hk.elim
  · exact .inr (by omega)⟩
def seqR (bx : Nat) (l : List It) : Res := anyR (fun F w => ∃ A, SeqAt w A bx l ∧ (∀ k, A k → k < w.heap.size) ∧ ∀ k, F k ↔ A k ∨ k = bx)
 (fun ⟨A, h1, h2, h3⟩ hk hs => ⟨A, h1.keeps hk (hs bx ((h3 bx).2 (.inr rfl))) (fun k ha => hs k ((h3 k).2 (.inl ha))), fun k ha => Nat.lt_of_lt_of_le (h2 k ha) hk.size, h3⟩)
 (fun ⟨A, h1, h2, h3⟩ k hk => ((h3 k).1 hk).elim (h2 k) fun e => e ▸ h1.lt)
theorem all_r {C : Nat → Prop} (w : World) (b : Nat) (R : AR) (h : (ringR b R).p C w) (hx : ∀ x ∈ R.items, x.bytes.length ≤ 1000000) :
 Calls Tryz.prog 167 #[.pointer (some ⟨b, 0, none⟩)] w fun e w' => ∃ bx, e = .returned (.func (.func 217) #[] #[.pointer (some ⟨bx, 0, none⟩)]) ∧ Upd NoB w w' (seqR bx R.items) := by
 obtain ⟨f, A, h1, h2, h3, h4⟩ := h
 refine (all_ring w b f R h1 hx).mono fun e w' ⟨e1, e2, e3⟩ => ⟨_, e1, fun k => (w.heap.size ≤ k ∧ k < w'.heap.size) ∨ k = w.heap.size, ⟨_, e2, fun k hk => hk.2, fun k => Iff.rfl⟩, e3, fun k hk => .inr ?_⟩
 rcases hk with hk | hk
 · exact hk.1
 · omega
end
end Go.Proofs.YtoadjbgpfihoiaaGreatDoor
section
namespace Go.Proofs.YtoadjbgpfihoiaaGreatDoor
open Go.RowKit
structure Ss where
 member : Int
 number : Int
 next : Int
 sent : Int
 acked : Int
 heard : Int
 live : Bool
 closed : Bool
 wait : Int
 ring : AR
 bye : Option (List UInt8)
def farN : Int := 4611686018427387904
def lineS (i : Int) (e : En) (t : List UInt8) : Sd := { Sd.of 9 with index := i, e := e, token := t }
def byeS (n : Int) : Sd := { Sd.of 12 with number := n }
abbrev rawS (s : Sd) : List UInt8 := frameL (bodyL s)
def newOk (member number fr most wait now : Int) : Bool :=
 decide (1 ≤ most ∧ most ≤ 64) && decide (0 ≤ member ∧ member ≤ 15) && decide (0 ≤ number ∧ number ≤ 2147483647) && decide (0 ≤ fr ∧ fr ≤ 2147483647) && decide (1 ≤ wait ∧ wait ≤ 1000000) && decide (0 ≤ now ∧ now ≤ farN)
abbrev newS (member number fr : Int) (most : Nat) (wait now : Int) : Ss := ⟨member, number, fr, fr, fr, now, false, false, wait, ⟨most, 0, []⟩, none⟩
namespace Ss
def offer (s : Ss) (i : Int) (e : En) (t : List UInt8) : Ss × Int :=
 if sdB (lineS i e t) = false then (s, 2) else if s.closed = true then (s, 360) else if i ≠ s.next then (s, 320)
 else if (s.ring.put ⟨false, 0, rawS (lineS i e t)⟩).2.2 ≠ 0 then ({ s with live := false }, 350)
 else ({ s with ring := (s.ring.put ⟨false, 0, rawS (lineS i e t)⟩).1, next := s.next + 1 }, 0)
def reach (s : Ss) (many : Int) : Ss × Int :=
 if ¬ (s.next ≤ many ∧ many ≤ 2147483647) then (s, 2) else if s.closed = true then (s, 360) else ({ s with live := many == s.next }, 0)
def keyS (x : Sd) : Int := x.member + if x.kind = 11 then 16 else 0
def besOk (x : Sd) : Bool := (decide (x.kind = 10) || decide (x.kind = 11)) && sdB x
def beside (s : Ss) (x : Sd) : Ss × Int × Int :=
 if besOk x = false then (s, 0, 2) else if s.closed = true then (s, 0, 360)
 else ({ s with ring := (s.ring.put ⟨true, keyS x, rawS x⟩).1 }, ((s.ring.put ⟨true, keyS x, rawS x⟩).2.1 : Nat), 0)
def waits (s : Ss) : Bool := match s.ring.items with
 | [] => false
 | x :: _ => !x.side && decide (s.sent - s.acked ≥ (s.ring.most : Int))
def take (s : Ss) : Ss × Option (List UInt8) :=
 if s.closed = true then ({ s with bye := none }, s.bye) else if s.waits = true then (s, none)
 else match s.ring.items with
  | [] => (s, none)
  | x :: r => ({ s with ring := { s.ring with items := r }, sent := s.sent + if x.side then 0 else 1 }, some x.bytes)
def ack (s : Ss) (i now : Int) : Ss × Int :=
 if ¬ ((s.acked ≤ i ∧ i ≤ s.sent) ∧ s.heard ≤ now ∧ now ≤ farN) then (s, 2) else if s.closed = true then (s, 360) else ({ s with acked := i, heard := now }, 0)
def hear (s : Ss) (now : Int) : Ss × Int :=
 if ¬ (s.heard ≤ now ∧ now ≤ farN) then (s, 2) else if s.closed = true then (s, 360) else ({ s with heard := now }, 0)
def silent (s : Ss) (now : Int) : Bool := !s.closed && (decide (s.heard ≤ now) && decide (s.wait ≤ now - s.heard))
def close (s : Ss) (why : Int) : Ss × Int :=
 if ¬ (0 ≤ why ∧ why ≤ 2147483647) then (s, 2) else if s.closed = true then (s, 360)
 else ({ s with closed := true, live := false, ring := { s.ring with items := [] }, bye := some (rawS (byeS why)) }, 0)
def queued (s : Ss) : Int := if s.bye.isSome then 1 else (s.ring.items.length : Int)
abbrev cells (s : Ss) : List Value := [.int .i64 s.member, .int .i64 s.number, .int .i64 s.next, .int .i64 s.sent, .int .i64 s.acked, .int .i64 s.heard, .bool s.live, .bool s.closed, .int .i64 0]
abbrev state (s : Ss) : List Value := [.int .i64 s.member, .int .i64 s.number, .int .i64 s.next, .int .i64 s.sent, .int .i64 s.acked, .int .i64 s.heard, .bool s.live, .bool s.closed, .int .i64 s.queued]
end Ss
open Ss
structure OkSs (s : Ss) (k : Nat) : Prop where
 mem : 0 ≤ s.member ∧ s.member ≤ 15
 num : 0 ≤ s.number ∧ s.number ≤ 2147483647
 ack0 : 0 ≤ s.acked
 sent0 : s.acked ≤ s.sent
 next0 : s.sent + (mains s.ring.items : Nat) ≤ s.next
 next1 : s.next ≤ 2147483648
 heard : 0 ≤ s.heard ∧ s.heard ≤ farN
 wait : 1 ≤ s.wait ∧ s.wait ≤ 1000000
 most : 1 ≤ s.ring.most ∧ s.ring.most ≤ 64
 len : s.ring.items.length ≤ s.ring.most
 lost : s.ring.lost ≤ k
 its : ∀ x ∈ s.ring.items, x.bytes.length ≤ 484
 bye : s.closed = false → s.bye = none
 byeL : ∀ b, s.bye = some b → b.length ≤ 484 ∧ b ≠ []
 empty : s.closed = true → s.ring.items = []
theorem frame_pos (l : List UInt8) : frameL l ≠ [] := by
 unfold frameL
 intro h
 have h1 := congrArg List.length h
 have h2 := sealL_len l
 rw [List.length_append, List.length_nil] at h1
 omega
theorem raw_len (x : Sd) (h : sdB x = true) : (rawS x).length ≤ 484 := frame_len (body_len x h)
theorem sd_bye (n : Int) (h : 0 ≤ n ∧ n ≤ 2147483647) : sdB (byeS n) = true := by
 have h1 : (byeS n).kind = 12 := rfl
 unfold sdB
 rw [h1]
 simp only [partsOf]
 simp [Part.clear, Part.may, byeS, Sd.of, h.1, h.2]
theorem new_ok {member number fr most wait now : Int} (h : newOk member number fr most wait now = true) : OkSs (newS member number fr most.toNat wait now) 0 ∧ (most.toNat : Int) = most := by
 unfold newOk at h
 simp only [Bool.and_eq_true, decide_eq_true_eq] at h
 obtain ⟨⟨⟨⟨⟨h1, h2⟩, h3⟩, h4⟩, h5⟩, h6⟩ := h
 refine ⟨⟨h2, h3, h4.1, Int.le_refl _, ?_, ?_, h6, h5, ?_, Nat.zero_le _, Nat.le_refl _, ?_, fun _ => rfl, ?_, ?_⟩, by omega⟩
 · simp [newS, mains]
 · simp only [newS]; omega
 · simp only [newS]; omega
 · intro x hx; simp [newS] at hx
 · intro b hb; cases hb
 · intro hb; cases hb
section
variable {s : Ss} {k : Nat}
theorem OkSs.put (h : OkSs s k) (x : It) (hx : x.bytes.length ≤ 484) : PutMain s.ring x (s.ring.put x) := put_main s.ring x h.len (by omega)
theorem put_len (R : AR) (x : It) (h : R.items.length ≤ R.most) : (R.put x).1.items.length ≤ R.most := by
 unfold AR.put
 split
 · exact h
 · split
   · exact h
   · cases hf : R.items.findIdx? (p33 x) with
     | some i => dsimp only; rw [List.length_set]; exact h
     | none =>
       dsimp only
       split
       · dsimp only; rw [List.length_append, List.length_singleton]; omega
       · cases hg : R.items.findIdx? p34 with
         | some i =>
           obtain ⟨hi, -⟩ := findIdx_at hg
           dsimp only
           rw [List.length_append, List.length_eraseIdx, if_pos hi, List.length_singleton]; omega
         | none =>
           dsimp only
           split
           · exact h
           · exact h
theorem put_err (R : AR) (x : It) (h : (R.put x).2.2 ≠ 0) : (R.put x).1 = R := by
 unfold AR.put at h ⊢
 by_cases h1 : (!x.side && x.key != 0) = true
 · rw [if_pos h1]
 · rw [if_neg h1] at h ⊢
   by_cases h2 : 1024 < x.bytes.length
   · rw [if_pos h2]
   · rw [if_neg h2] at h ⊢
     cases hf : R.items.findIdx? (p33 x) with
     | some i => rw [hf] at h; exact absurd rfl h
     | none =>
       rw [hf] at h
       dsimp only at h ⊢
       by_cases h3 : R.items.length < R.most
       · rw [if_pos h3] at h; exact absurd rfl h
       · rw [if_neg h3] at h ⊢
         cases hg : R.items.findIdx? p34 with
         | some i => rw [hg] at h; exact absurd rfl h
         | none =>
           rw [hg] at h
           dsimp only at h ⊢
           by_cases h4 : x.side = true
           · rw [if_pos h4] at h; exact absurd rfl h
           · rw [if_neg h4]
theorem OkSs.mono (h : OkSs s k) {k' : Nat} (hk : k ≤ k') : OkSs s k' := { h with lost := Nat.le_trans h.lost hk }
theorem OkSs.putOk (h : OkSs s k) (x : It) (hx : x.bytes.length ≤ 484) (hc : s.closed = false) (next : Int) (hn : next ≤ 2147483648) (hm : s.sent + (mains (s.ring.put x).1.items : Nat) ≤ next) : OkSs { s with ring := (s.ring.put x).1, next := next } (k + 1) :=
 let p := h.put x hx
 ⟨h.mem, h.num, h.ack0, h.sent0, hm, hn, h.heard, h.wait, by rw [show ({ s with ring := (s.ring.put x).1, next := next } : Ss).ring.most = s.ring.most from p.most]; exact h.most,
  by show (s.ring.put x).1.items.length ≤ (s.ring.put x).1.most; rw [p.most]; exact put_len _ _ h.len, Nat.le_trans p.lost (Nat.succ_le_succ h.lost), fun y hy => (p.sub y hy).elim (h.its y) fun e => e ▸ hx, h.bye, h.byeL,
  fun h' => by rw [show s.closed = true from h'] at hc; cases hc⟩
theorem ms_mains {a b : List It} (h : ms a = ms b) : mains a = mains b := by rw [← ms_length, ← ms_length, h]
theorem OkSs.offer (h : OkSs s k) (i : Int) (e : En) (t : List UInt8) : OkSs (s.offer i e t).1 (k + 1) := by
 unfold Ss.offer
 split
 · exact h.mono (Nat.le_succ _)
 · rename_i hsd
   have hsd : sdB (lineS i e t) = true := by simpa using hsd
   split
   · exact h.mono (Nat.le_succ _)
   · rename_i hc
     have hc : s.closed = false := by simpa using hc
     split
     · exact h.mono (Nat.le_succ _)
     · rename_i hi
       have hi : i = s.next := Classical.not_not.1 hi
       have hb : i ≤ 2147483647 := by
        unfold sdB at hsd
        rw [show (lineS i e t).kind = 9 from rfl] at hsd
        simp only [partsOf] at hsd
        simp [Part.may, lineS] at hsd
        exact hsd.2.1.2
       split
       · exact { h with lost := Nat.le_succ_of_le h.lost }
       · rename_i hp
         have hp : (s.ring.put ⟨false, 0, rawS (lineS i e t)⟩).2.2 = 0 := Classical.not_not.1 hp
         have hl := raw_len _ hsd
         refine h.putOk _ hl hc _ (by omega) ?_
         have hpm := h.put ⟨false, 0, rawS (lineS i e t)⟩ hl
         have h0 := h.next0
         by_cases hroom : mains s.ring.items < s.ring.most
         · have := (hpm.got rfl rfl hroom).2
           have h2 := congrArg List.length this
           rw [ms_length, List.length_append, ms_length] at h2
           simp at h2
           omega
         · have := (hpm.full rfl rfl hroom).2
           have := ms_mains this
           omega
theorem OkSs.reach (h : OkSs s k) (m : Int) : OkSs (s.reach m).1 k := by
 unfold Ss.reach
 split
 · exact h
 · split
   · exact h
   · exact { h with }
theorem OkSs.beside (h : OkSs s k) (x : Sd) : OkSs (s.beside x).1 (k + 1) := by
 unfold Ss.beside
 split
 · exact h.mono (Nat.le_succ _)
 · rename_i hb
   have hb : besOk x = true := by simpa using hb
   have hsd : sdB x = true := by unfold besOk at hb; simp only [Bool.and_eq_true] at hb; exact hb.2
   split
   · exact h.mono (Nat.le_succ _)
   · rename_i hc
     have hc : s.closed = false := by simpa using hc
     have hl := raw_len _ hsd
     have hpm := h.put ⟨true, keyS x, rawS x⟩ hl
     refine h.putOk _ hl hc s.next h.next1 ?_
     rw [ms_mains (hpm.other (fun h => by cases h.1))]
     exact h.next0
theorem OkSs.take (h : OkSs s k) : OkSs s.take.1 k := by
 unfold Ss.take
 split
 · rename_i hc
   exact { h with bye := (fun _ => rfl), byeL := (fun b hb => by cases hb) }
 · rename_i hc
   have hc : s.closed = false := by simpa using hc
   split
   · exact h
   · rename_i hw
     split
     · exact h
     · rename_i x r hxr
       have h0 := h.next0
       have hm : mains s.ring.items = (if x.side then 0 else 1) + mains r := by
        rw [hxr]
        unfold mains
        cases hs : x.side <;> simp [hs]
        omega
       have hle : s.sent + (if x.side = true then (0 : Int) else 1) + (mains r : Nat) ≤ s.next := by
        rw [hm] at h0
        cases hs : x.side <;> simp [hs] at h0 ⊢ <;> omega
       refine { h with sent0 := ?_, next0 := hle, len := ?_, its := (fun y hy => h.its y (by rw [hxr]; exact List.mem_cons_of_mem _ hy)), empty := (fun h' => by rw [show s.closed = true from h'] at hc; cases hc) }
       · have := h.sent0
         show s.acked ≤ s.sent + (if x.side = true then 0 else 1)
         cases hs : x.side <;> simp <;> omega
       · have := h.len
         rw [hxr] at this
         simp at this
         show r.length ≤ s.ring.most
         omega
theorem OkSs.ack (h : OkSs s k) (i now : Int) : OkSs (s.ack i now).1 k := by
 unfold Ss.ack
 split
 · exact h
 · rename_i hn
   have hn := Classical.not_not.1 hn
   split
   · exact h
   · exact { h with ack0 := Int.le_trans h.ack0 hn.1.1, sent0 := hn.1.2, heard := ⟨Int.le_trans h.heard.1 hn.2.1, hn.2.2⟩ }
theorem OkSs.hear (h : OkSs s k) (now : Int) : OkSs (s.hear now).1 k := by
 unfold Ss.hear
 split
 · exact h
 · rename_i hn
   have hn := Classical.not_not.1 hn
   split
   · exact h
   · exact { h with heard := ⟨Int.le_trans h.heard.1 hn.1, hn.2⟩ }
theorem OkSs.close (h : OkSs s k) (why : Int) : OkSs (s.close why).1 k := by
 unfold Ss.close
 split
 · exact h
 · rename_i hn
   have hn := Classical.not_not.1 hn
   split
   · exact h
   · have h0 := h.next0
     exact { h with next0 := (by show s.sent + (mains [] : Nat) ≤ s.next; simp [mains]; omega), len := Nat.zero_le _, its := (fun x hx => by cases hx), bye := (fun h' => by cases h'), byeL := (fun b hb => by cases hb; exact ⟨raw_len _ (sd_bye why hn), frame_pos _⟩), empty := fun _ => rfl }
end
end Go.Proofs.YtoadjbgpfihoiaaGreatDoor
end
namespace Go.Proofs.YtoadjbgpfihoiaaGreatDoor
open Go.RowKit
section
theorem sin_int (w : World) (n a b : Int) : Calls Tryz.prog 77 #[.int .i64 n, .int .i64 a, .int .i64 b] w fun e w' => e = .returned (.bool (decide (a ≤ n ∧ n ≤ b))) ∧ w' = w := by
 by_cases h1 : a ≤ n
 · have e1 : decide (a ≤ n ∧ n ≤ b) = decide (n ≤ b) := by simp [h1]
   rw [e1]
   clear e1
   go_enter Tryz.func77, Tryz.ntmps77
   go_wp2_with fail
   go_ret
   exact ⟨rfl, rfl⟩
 · have e1 : decide (a ≤ n ∧ n ≤ b) = false := by simp [h1]
   rw [e1]
   clear e1
   go_enter Tryz.func77, Tryz.ntmps77
   go_wp2_with fail
   go_ret
   exact ⟨rfl, rfl⟩
theorem sin_i64 (w : World) (n a b : Int) : Calls Tryz.prog 78 #[.int .i64 n, .int .i64 a, .int .i64 b] w fun e w' => e = .returned (.bool (decide (a ≤ n ∧ n ≤ b))) ∧ w' = w := by
 by_cases h1 : a ≤ n
 · have e1 : decide (a ≤ n ∧ n ≤ b) = decide (n ≤ b) := by simp [h1]
   rw [e1]
   clear e1
   go_enter Tryz.func78, Tryz.ntmps78
   go_wp2_with fail
   go_ret
   exact ⟨rfl, rfl⟩
 · have e1 : decide (a ≤ n ∧ n ≤ b) = false := by simp [h1]
   rw [e1]
   clear e1
   go_enter Tryz.func78, Tryz.ntmps78
   go_wp2_with fail
   go_ret
   exact ⟨rfl, rfl⟩
theorem within_any (w : World) (n a b : Int) : Calls Tryz.prog 81 #[.int .i64 n, .int .i64 a, .int .i64 b] w fun e w' => e = .returned (.bool (decide (a ≤ n ∧ n ≤ b))) ∧ w' = w := by
 by_cases h1 : a ≤ n
 · have e1 : decide (a ≤ n ∧ n ≤ b) = decide (n ≤ b) := by simp [h1]
   rw [e1]
   clear e1
   go_enter Tryz.func81, Tryz.ntmps81
   go_wp2_with fail
   go_ret
   exact ⟨rfl, rfl⟩
 · have e1 : decide (a ≤ n ∧ n ≤ b) = false := by simp [h1]
   rw [e1]
   clear e1
   go_enter Tryz.func81, Tryz.ntmps81
   go_wp2_with fail
   go_ret
   exact ⟨rfl, rfl⟩
theorem snone_no (w : World) (b : Nat) (a : Addr) (h : w.cell? ⟨b, 0, none⟩ = some (.pointer (some a))) : Calls Tryz.prog 84 #[.pointer (some ⟨b, 0, none⟩)] w fun e w' => e = .returned (.bool false) ∧ w' = w := by
 go_enter Tryz.func84, Tryz.ntmps84
 go_wp2
 go_ret
 exact ⟨rfl, rfl⟩
structure Flt where
 f : FuncId
 first : Array Value
 cap : Array Value
 why : Int
def Flt.v (p : Flt) : Value := .func (.func p.f) p.first p.cap
def fltE : Enc Flt where
 cells p := [p.v, .int .i64 p.why]
 sz := 2
 len _ := rfl
 one p u hu := by
  rcases List.mem_cons.1 hu with rfl | hu
  · rfl
  · rw [List.mem_singleton.1 hu]; rfl
theorem infoFlt : (Tryz.prog.info? 158).map (fun i => (i.zero, i.size, i.bytes)) = some (some (.agg #[.nilFunc, .int .i64 0]), 2, 16) := by kernel_rfl
def firstF : List (Flt × Bool) → Int
 | [] => 0
 | (p, b) :: l => if b then p.why else firstF l
def noneF (l : List (Flt × Bool)) : Bool := l.all fun p => !p.2
def TellsF (w : World) (p : Flt) (b : Bool) : Prop := (∀ args w, (callFunc p.f args).run Tryz.prog w = .ok (.enter p.f args) w) ∧ ∀ w1, Ext w w1 → Calls Tryz.prog p.f (p.first ++ p.cap) w1 fun e w2 => e = .returned (.bool b) ∧ Ext w1 w2
theorem does1_any (w : World) (mb : Bool) (k f : Nat) (first cap : Array Value) (h0 : w.cell? ⟨k, 0, none⟩ = some (.func (.func f) first cap)) (h : TellsF w ⟨f, first, cap, 0⟩ mb) :
 Calls Tryz.prog 147 #[.pointer (some ⟨k, 0, none⟩)] w fun e w' => e = .returned (.bool (!mb)) ∧ Ext w w' := by
 obtain ⟨hen, hc⟩ := h
 dsimp only at hen hc
 have HC := Lib.hid hc
 clear hc
 have hk := World.block_lt_of_cell? _ _ h0
 go_enter Tryz.func147, Tryz.ntmps147
 go_wp2_with fail
 refine (HC.out w (Keeps.refl _ _)).mono ?_
 rintro e w2 ⟨rfl, hE⟩
 have HE := Lib.hid hE
 clear hE
 go_wp2_with fail
 go_ret
 exact ⟨rfl, HE.out⟩
theorem does2_any (w : World) (k sb : Nat) (cb : Bool) (h0 : w.cell? ⟨k, 0, none⟩ = some (.pointer (some ⟨sb, 0, none⟩))) (h1 : w.cell? ⟨sb, 8, none⟩ = some (.bool cb)) :
 Calls Tryz.prog 148 #[.pointer (some ⟨k, 0, none⟩)] w fun e w' => e = .returned (.bool cb) ∧ w' = w := by
 have hk := World.block_lt_of_cell? _ _ h0
 have hs := World.block_lt_of_cell? _ _ h1
 go_enter Tryz.func148, Tryz.ntmps148
 go_wp2
 go_ret
 exact ⟨rfl, rfl⟩
theorem Mem.rowMade {α : Type} {E : Enc α} {F : Nat → Prop} {w0 w : World} {L : List Res} {g : Nat} {t : TypeId} {l : List α} (h : Mem F w0 w (cellsR g t (E.row l) :: L)) (hl : l.length ≤ 1000000) (hz : 1 ≤ E.sz) : Mem F w0 w (rowR E (.slice (some ⟨g, 0, none⟩) l.length l.length) l :: L) :=
 h.turn fun A hA => ⟨fun k => ⟨fun hk => by rw [(hA.1 k).1 hk]; rfl, fun hk => (hA.1 k).2 (Option.some.inj (show some g = some k from hk)).symm⟩, by
  have hr := hA.2.reads
  refine ⟨by rw [E.row_len], .inr ⟨g, 0, l.length, rfl, Nat.zero_le _, Nat.le_refl _, by simp [maxLen]; omega, hA.2.lt, fun j hj => ?_, fun j u hu => ?_⟩⟩
  · rw [Nat.zero_add]
    have hj' : j < (E.row l).length := by rw [E.row_len]; exact hj
    exact ⟨by rw [hr.1, List.getElem?_eq_getElem hj']; rfl, hr.2 j⟩
  · rw [Nat.zero_add, hr.1]; exact hu⟩
theorem TellsF.ext {w w' : World} {p : Flt} {b : Bool} (h : TellsF w p b) (e : Ext w w') : TellsF w' p b := ⟨h.1, fun w1 h1 => h.2 w1 (e.ext h1)⟩
def ArgF (w : World) (lv : Value) (x : List (Flt × Bool)) : Prop := (x = [] ∧ lv = .slice none 0 0) ∨ ∃ lb q b, x = [(q, b)] ∧ lv = .slice (some ⟨lb, 0, none⟩) 1 1 ∧ Box w lb 158 (fltE.cells q) ∧ TellsF w q b
theorem add_flt {F : Nat → Prop} {w0 w : World} {L : List Res} {v : Value} {l : List Flt} (ty : TypeId) (h : Mem F w0 w (rowR fltE v l :: L)) (lv : Value) (x : List (Flt × Bool)) (hx : ArgF w lv x) (hl : l.length ≤ 100) :
 ∃ v' w', (Builtin.append_ #[210, 210] ty #[v, lv]).run Tryz.prog w = .ok v' w' ∧ Mem F w0 w' (rowR fltE v' (l ++ x.map (·.1)) :: L) := by
 obtain ⟨i0, hi, hz0, hz1, hz2⟩ := info_parts infoFlt
 rcases hx with ⟨rfl, rfl⟩ | ⟨lb, q, b, rfl, rfl, hc, -⟩
 · obtain ⟨v', w', hr, hm⟩ := Mem.append (P := Tryz.prog) 210 210 ty 158 i0 _ 2 16 Tryz.underlying210 hi hz0 hz1 hz2 rfl h
    (.slice none 0 0) 0 [] (SrcCells.toSrc (.inl ⟨rfl, rfl, rfl⟩) Tryz.underlying210 rfl (fun u hu => by cases hu)) (by simp [maxLen]; omega) (by omega)
   refine ⟨v', w', hr, ?_⟩
   rw [List.map_nil, List.append_nil]
   unfold rowR
   rw [Nat.add_zero, List.append_nil] at hm
   exact hm
 · obtain ⟨v', w', hr, hm⟩ := Mem.rowAdd (P := Tryz.prog) 210 210 ty 158 i0 _ 16 Tryz.underlying210 Tryz.underlying210 hi hz0 hz1 hz2 rfl h lb 1 q hc.reads.1 (by simp [maxLen]; omega) (by omega)
   exact ⟨v', w', hr, hm⟩
def doesI (nb mb cb : Bool) (x : List (Flt × Bool)) : Int := if nb then 1 else if !mb then 2 else if cb then 360 else firstF x
def doesB (nb mb cb : Bool) (x : List (Flt × Bool)) : Bool := !nb && mb && !cb && noneF x
theorem noneF_cons (p : Flt × Bool) (l : List (Flt × Bool)) : noneF (p :: l) = (!p.2 && noneF l) := by simp [noneF]
theorem firstF_take : ∀ (l : List (Flt × Bool)) (j : Nat) (hj : j < l.length), (∀ q ∈ l.take j, q.2 = false) → l[j].2 = true → firstF l = l[j].1.why
 | (p, b) :: l, 0, _, _, h => by
   have h : b = true := h
   subst h; rfl
 | (p, b) :: l, j + 1, hj, hb, h => by
   have h0 : b = false := hb (p, b) (by rw [List.take_succ_cons]; exact List.mem_cons_self ..)
   subst h0
   exact firstF_take l j (by simpa using hj) (fun q hq => hb q (by rw [List.take_succ_cons]; exact List.mem_cons_of_mem _ hq)) (by simpa using h)
theorem noneF_take (l : List (Flt × Bool)) (j : Nat) (hj : j < l.length) (h : l[j].2 = true) : noneF l = false := by
 unfold noneF
 rw [List.all_eq_false]
 exact ⟨l[j], List.getElem_mem hj, by rw [h]; simp⟩
theorem firstF_all (l : List (Flt × Bool)) (h : ∀ q ∈ l, q.2 = false) : firstF l = 0 ∧ noneF l = true := by
 induction l with
 | nil => exact ⟨rfl, rfl⟩
 | cons p l ih =>
   obtain ⟨p, b⟩ := p
   have hb : b = false := h (p, b) (List.mem_cons_self ..)
   subst hb
   have := ih fun q hq => h q (List.mem_cons_of_mem _ hq)
   exact ⟨this.1, by rw [noneF_cons, this.2]; rfl⟩
def allF (p : Option Addr) (k4 k5 : Nat) (nb mb cb : Bool) (x : List (Flt × Bool)) : List (Flt × Bool) :=
 [(⟨84, #[.pointer p], #[], 1⟩, nb), (⟨147, #[], #[.pointer (some ⟨k5, 0, none⟩)], 2⟩, !mb), (⟨148, #[], #[.pointer (some ⟨k4, 0, none⟩)], 360⟩, cb)] ++ x
theorem allF_first (p : Option Addr) (k4 k5 : Nat) (nb mb cb : Bool) (x : List (Flt × Bool)) : firstF (allF p k4 k5 nb mb cb x) = doesI nb mb cb x := by
 unfold allF doesI
 cases nb <;> cases mb <;> cases cb <;> rfl
theorem allF_none (p : Option Addr) (k4 k5 : Nat) (nb mb cb : Bool) (x : List (Flt × Bool)) : noneF (allF p k4 k5 nb mb cb x) = doesB nb mb cb x := by
 unfold allF doesB
 rw [List.cons_append, List.cons_append, List.cons_append, List.nil_append, noneF_cons, noneF_cons, noneF_cons]
 cases nb <;> cases mb <;> cases cb <;> simp
theorem allF_tells {w wr : World} {p : Option Addr} {k4 k5 : Nat} {nb mb cb : Bool} {mf : Nat} {m1 m2 : Array Value} {lv : Value} {x : List (Flt × Bool)} (hE : Ext w wr)
 (hn : ∀ w1, Ext w w1 → Calls Tryz.prog 84 #[.pointer p] w1 fun e w2 => e = .returned (.bool nb) ∧ w2 = w1)
 (hm : nb = false → TellsF w ⟨mf, m1, m2, 0⟩ mb) (hs : nb = false → ∃ sb, p = some ⟨sb, 0, none⟩ ∧ w.cell? ⟨sb, 8, none⟩ = some (.bool cb)) (hx : ArgF w lv x)
 (b5 : Box wr k5 22 [.func (.func mf) m1 m2]) (b4 : Box wr k4 64 [.pointer p])
 (j : Nat) (hj : j < (allF p k4 k5 nb mb cb x).length) (hf : ∀ q ∈ (allF p k4 k5 nb mb cb x).take j, q.2 = false) : TellsF wr (allF p k4 k5 nb mb cb x)[j].1 (allF p k4 k5 nb mb cb x)[j].2 := by
 have hnb : 1 ≤ j → nb = false := fun h => hf (_, nb) (by
  obtain ⟨i, rfl⟩ : ∃ i, j = i + 1 := ⟨j - 1, by omega⟩
  unfold allF
  rw [List.cons_append, List.take_succ_cons]
  exact List.mem_cons_self ..)
 obtain rfl | rfl | rfl | hj3 : j = 0 ∨ j = 1 ∨ j = 2 ∨ 3 ≤ j := by omega
 · refine ⟨enters_of Tryz.func84 (by kernel_rfl) rfl, fun w1 h1 => ?_⟩
   refine (hn w1 (hE.ext h1)).mono ?_
   rintro e w2 ⟨rfl, rfl⟩
   exact ⟨rfl, Keeps.refl _ _⟩
 · refine ⟨enters_of Tryz.func147 (by kernel_rfl) rfl, fun w1 h1 => ?_⟩
   exact does1_any w1 mb k5 mf m1 m2 ((b5.ext h1).reads.1 0) ((hm (hnb (Nat.le_refl _))).ext (hE.ext h1))
 · refine ⟨enters_of Tryz.func148 (by kernel_rfl) rfl, fun w1 h1 => ?_⟩
   obtain ⟨sb, rfl, hc⟩ := hs (hnb (by omega))
   refine (does2_any w1 k4 sb cb ((b4.ext h1).reads.1 0) ((hE.ext h1).cell (noB _) hc)).mono ?_
   rintro e w2 ⟨rfl, rfl⟩
   exact ⟨rfl, Keeps.refl _ _⟩
 · rcases hx with ⟨rfl, -⟩ | ⟨lb, q, b, rfl, -, -, ht⟩
   · have : (allF p k4 k5 nb mb cb []).length = 3 := rfl
     omega
   · have : (allF p k4 k5 nb mb cb [(q, b)]).length = 4 := rfl
     obtain rfl : j = 3 := by omega
     exact ht.ext hE
theorem does_any {Q : World → Prop} (w : World) (p : Option Addr) (nb mb cb : Bool) (mf df : Nat) (m1 m2 d1 d2 : Array Value) (lv : Value) (x : List (Flt × Bool)) (hxl : x.length ≤ 1)
 (hn : ∀ w1, Ext w w1 → Calls Tryz.prog 84 #[.pointer p] w1 fun e w2 => e = .returned (.bool nb) ∧ w2 = w1)
 (hm : nb = false → TellsF w ⟨mf, m1, m2, 0⟩ mb) (hs : nb = false → ∃ sb, p = some ⟨sb, 0, none⟩ ∧ w.cell? ⟨sb, 8, none⟩ = some (.bool cb)) (hx : ArgF w lv x)
 (hen : ∀ args w, (callFunc df args).run Tryz.prog w = .ok (.enter df args) w)
 (hd : doesB nb mb cb x = true → ∀ w1, Ext w w1 → Calls Tryz.prog df (d1 ++ d2) w1 fun e w2 => e = .returned (.tuple #[]) ∧ Q w2) :
 Calls Tryz.prog 88 #[.pointer p, .func (.func mf) m1 m2, .func (.func df) d1 d2, lv] w fun e w' =>
  e = .returned (.int .i64 (doesI nb mb cb x)) ∧ (doesB nb mb cb x = true → Q w') ∧ (doesB nb mb cb x = false → Ext w w') := by
 have HM := Lib.hid (Mem.start0 w)
 have HN := Lib.hid hn
 have HMY := Lib.hid hm
 have HS := Lib.hid hs
 have HX := Lib.hid hx
 have HD := Lib.hid hd
 clear hn hm hs hx hd
 go_enter Tryz.func88, Tryz.ntmps88
 have fM := HM.out.fa
 go_wp2_with (at_builtin; refine standing ?_)
 clear fM
 obtain ⟨k4, hk4⟩ : ∃ k, w.heap.size = k := ⟨_, rfl⟩
 obtain ⟨k5, hk5⟩ : ∃ k, w.heap.size + 1 = k := ⟨_, rfl⟩
 obtain ⟨k6, hk6⟩ : ∃ k, w.heap.size + 1 + 1 = k := ⟨_, rfl⟩
 refine nxt HM fun w1 M => ?_
 clear HM; have HM := M; clear M
 rw [hk6] at HM ⊢
 rw [hk5] at HM ⊢
 rw [hk4] at HM ⊢
 clear hk4 hk5 hk6
 have hr1 := Mem.rowMade (E := fltE) (l := [⟨84, #[.pointer p], #[], 1⟩, ⟨147, #[], #[.pointer (some ⟨k5, 0, none⟩)], 2⟩, ⟨148, #[], #[.pointer (some ⟨k4, 0, none⟩)], 360⟩]) HM.out (by simp) (by decide)
 obtain ⟨v2, w2, hr, hm⟩ := add_flt 210 hr1 lv x (by
  have he := HM.out.extTo
  rcases HX.out with h | ⟨lb, q, b, h1, h2, h3, h4⟩
  · exact .inl h
  · exact .inr ⟨lb, q, b, h1, h2, h3.ext he, h4.ext he⟩) (by simp)
 replace HM := Lib.hid hm
 clear hm hr1
 refine ⟨?_⟩
 refine wpList_append_ran rfl _ _ hr rfl rfl rfl ?_
 clear hr
 obtain ⟨fs, hfs⟩ : ∃ fs, allF p k4 k5 nb mb cb x = fs := ⟨_, rfl⟩
 have HFS := Lib.hid hfs
 have hm2 : Mem NoB w w2 [rowR fltE v2 (fs.map (·.1)), cellsR k5 22 [.func (.func mf) m1 m2], cellsR k4 64 [.pointer p]] := by
  rw [← hfs]
  exact HM.out
 replace HM := Lib.hid hm2
 have hlen : fs.length ≤ 4 := by
  rw [← hfs]; unfold allF; simp; omega
 obtain ⟨a2, c2, rfl⟩ := HM.out.fact fun A h => row_len h
 rw [List.length_map] at *
 clear hm2 hfs
 go_wp2_with fail
 go_loopw [24] (fun i wr => ∃ j : Nat, j ≤ fs.length ∧ i = .int .i64 j ∧ Hid (∀ q ∈ fs.take j, q.2 = false) ∧ Hid (Mem NoB w wr [rowR fltE (.slice a2 fs.length c2) (fs.map (·.1)), cellsR k5 22 [.func (.func mf) m1 m2], cellsR k4 64 [.pointer p]])) (fun i _ => fs.length - (intOf i).toNat)
 case atStart => exact ⟨0, Nat.zero_le _, rfl, Lib.hid (fun q hq => by cases hq), HM⟩
 case round =>
  clear HM
  obtain ⟨j, hj, rfl, HF, HM⟩ := hrel
  by_cases hlt : j < fs.length
  · have g1 : (j : Int) < fs.length := by omega
    have g2 : ¬ (j : Int) < 0 := by omega
    obtain ⟨A1, hrow⟩ := HM.out.get (r := rowR fltE (.slice a2 fs.length c2) (fs.map (·.1))) pk
    obtain ⟨g, o, cap, hsl, hcap, -, hat⟩ := row_cells hrow (by rw [List.length_map]; omega)
    rw [List.length_map] at hsl hcap
    have hat0 := hat j (by rw [List.length_map]; exact hlt)
    injection hsl with hs1 hs2 hs3
    subst hs1 hs3
    have c0 := hat0 0 (by decide)
    have c1 := hat0 1 (by decide)
    obtain ⟨A5, h5⟩ := HM.out.get (r := cellsR k5 22 [.func (.func mf) m1 m2]) pk
    obtain ⟨A4, h4⟩ := HM.out.get (r := cellsR k4 64 [.pointer p]) pk
    have htl := allF_tells HM.out.extTo HN.out HMY.out HS.out HX.out h5.2 h4.2 j (by rw [HFS.out]; exact hlt) (by rw [HFS.out]; exact HF.out)
    have hq1 : (allF p k4 k5 nb mb cb x)[j]'(by rw [HFS.out]; exact hlt) = fs[j] := by first | (congr 1; exact HFS.out) | congr 1
    rw [hq1] at htl
    have HTK := Lib.hid (List.take_succ_eq_append_getElem hlt)
    have HFI := Lib.hid (fun h => firstF_take fs j hlt HF.out h)
    have HNO := Lib.hid (fun h => noneF_take fs j hlt h)
    rw [List.getElem_map] at c0 c1
    obtain ⟨q, hq⟩ : ∃ q, fs[j] = q := ⟨_, rfl⟩
    rw [hq] at htl c0 c1 HTK HFI HNO
    obtain ⟨⟨qf, q1, q2, qw⟩, qb⟩ := q
    obtain ⟨hqe, htl⟩ := htl
    dsimp only at htl hqe HFI HNO
    have c0' : wr.cell? ⟨g, o + j * 2, none⟩ = some (.func (.func qf) q1 q2) := c0
    have c1' : wr.cell? ⟨g, o + j * 2 + 1, none⟩ = some (.int .i64 qw) := c1
    have HTL := Lib.hid htl
    have hgl := World.block_lt_of_cell? _ _ c0'
    clear hrow hat hat0 c0 c1 h5 h4 htl hq1 hq hcap
    go_wp2_with fail
    obtain ⟨k11, hk11⟩ : ∃ k, wr.heap.size = k := ⟨_, rfl⟩
    obtain ⟨w3, hw3⟩ : ∃ w3, wr.alloc (Obj.cells #[.func (.func qf) q1 q2, .int .i64 qw] 158) = w3 := ⟨_, rfl⟩
    have hE3 : Ext wr w3 := by rw [← hw3]; exact (Keeps.refl _ _).alloc _
    have hm3 := HM.out.alloc (t := 158) (cs := [.func (.func qf) q1 q2, .int .i64 qw]) hk11
    rw [show wr.alloc (Obj.cells [.func (.func qf) q1 q2, .int .i64 qw].toArray 158) = w3 from hw3] at hm3
    rw [hw3, hk11]
    replace HM := Lib.hid hm3
    clear hw3 hk11 hm3 c0' c1' hgl
    refine (HTL.out w3 hE3).mono ?_
    rintro e w4 ⟨rfl, hE4⟩
    replace HM := Lib.hid (HM.out.ext hE4)
    clear hE3 hE4 HTL
    cases qb
    · skip
      have fM := HM.out.fa
      go_wp2_with fail
      all_goals clear fM
      go_roundw
      case rel =>
       refine ⟨j + 1, by omega, by go_num, Lib.hid ?_, Lib.hid (Mem.sub HM.out sb)⟩
       rw [HTK.out]
       intro y hy
       rcases List.mem_append.1 hy with hy | hy
       · exact HF.out y hy
       · rw [List.mem_singleton.1 hy]
      case measure => simp [intOf]; omega
    · have h1 := HFI.out rfl
      have h2 := HNO.out rfl
      rw [← HFS.out, allF_first] at h1
      rw [← HFS.out, allF_none] at h2
      have H1 := Lib.hid h1
      have H2 := Lib.hid h2
      clear h1 h2
      have fM := HM.out.fa
      go_wp2_with fail
      all_goals clear fM
      go_ret
      rw [H1.out, H2.out]
      exact ⟨rfl, (fun h => by cases h), fun _ => HM.out.extTo⟩
  · obtain rfl : j = fs.length := by omega
    rw [List.take_length] at HF
    obtain ⟨h1, h2⟩ := firstF_all fs HF.out
    rw [← HFS.out, allF_first] at h1
    rw [← HFS.out, allF_none] at h2
    have H1 := Lib.hid h1
    have H2 := Lib.hid h2
    have HDD := Lib.hid (HD.out h2 wr HM.out.extTo)
    clear h1 h2
    go_wp2_with fail
    refine HDD.out.mono ?_
    rintro e w4 ⟨rfl, hq⟩
    have HQ := Lib.hid hq
    clear hq
    go_wp2_with fail
    go_ret
    rw [H1.out, H2.out]
    exact ⟨rfl, fun _ => HQ.out, fun h => by cases h⟩
end
end Go.Proofs.YtoadjbgpfihoiaaGreatDoor
