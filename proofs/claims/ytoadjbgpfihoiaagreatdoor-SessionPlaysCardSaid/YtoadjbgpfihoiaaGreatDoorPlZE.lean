/- Texts RefF, RefX, Same, Collect, Copy, CopyB, RSame, RR, RingI, one behind the other. Conditions: as each says. -/
import Derived.Test.YtoadjbgpfihoiaaGreatDoorPlP
import Derived.Test.YtoadjbgpfihoiaaGreatDoorPlZB
import Derived.BigFrameIn
import Derived.RegionTactic
set_option linter.unusedVariables false
set_option linter.unusedSimpArgs false
set_option maxHeartbeats 8000000
set_option maxRecDepth 100000
namespace Go.Proofs.YtoadjbgpfihoiaaGreatDoor
open Go.RowKit
set_option maxHeartbeats 2000000 in
theorem rput_same {A B : Nat → Prop} (w : World) (v vx : Value) (R : AR) (key : Int) (xb : List UInt8) (i : Nat) (h : RefV w A v R) (hv : ItemV w B vx ⟨true, key, xb⟩) (hl : R.items.length ≤ 1000) (hm : R.most ≤ 1000) (hlost : R.lost ≤ 1000000) (hx : xb.length ≤ 1024)
 (hA : ∀ k, A k → k < w.heap.size) (hB : ∀ k, B k → k < w.heap.size) (h33 : R.items.findIdx? (p33 ⟨true, key, xb⟩) = some i) :
 Calls Tryz.prog 86 #[v, vx] w (RPutPost w A R ⟨true, key, xb⟩) := by
 have hf33 : findI (pside false key) R.items = i := by unfold findI; rw [← pside_p33 ⟨true, key, xb⟩ rfl, h33]
 obtain ⟨hi, -⟩ := findIdx_at h33
 have hput : R.put ⟨true, key, xb⟩ = ({ R with items := R.items.set i ⟨true, key, xb⟩, lost := R.lost + 1 }, 1, 0) := by
  unfold AR.put; rw [if_neg (by simp), if_neg (by dsimp only; omega), h33]
 have HP := Hd hput; have F33 := Hd hf33; clear h33 hf33 hput; have HR := Hd h; obtain ⟨sv, rfl, hs⟩ := h; obtain ⟨a, c, rfl, -⟩ := hs.itAt; obtain ⟨bx, rfl, hb⟩ := hv; obtain ⟨a2, c2, rfl⟩ := hb.len; have HS := Hd hs; have HA := Hd hA; have HB := Hd hB; dsimp only at hb ⊢; have hng : ¬ (1024 < (xb.length : Int)) := by omega
 have e0 : Ext w ((((w.alloc (Obj.cells #[.int .i64 (R.most : Int), .slice a R.items.length c, .int .i64 (R.lost : Int)] 71)).alloc (Obj.cells #[.bool true, .int .i64 key, .slice a2 xb.length c2] 152)).alloc (Obj.cells #[.int .i64 0, .slice none 0 0, .int .i64 0] 71)).alloc (Obj.cells #[] 5)) := ((((Keeps.refl _ _).alloc _).alloc _).alloc _).alloc _; obtain ⟨v1, w1, hr1, hwin1, hk1, ho1⟩ := append_bytes ((((w.alloc (Obj.cells #[.int .i64 (R.most : Int), .slice a R.items.length c, .int .i64 (R.lost : Int)] 71)).alloc (Obj.cells #[.bool true, .int .i64 key, .slice a2 xb.length c2] 152)).alloc (Obj.cells #[.int .i64 0, .slice none 0 0, .int .i64 0] 71)).alloc (Obj.cells #[] 5)) (w.heap.size + 1 + 1 + 1) (.slice (some ⟨w.heap.size + 1 + 1 + 1, 0, none⟩) 0 0) [] 27 (Win.empty (Nat.le_refl _) (by simp)) _ xb (hb.ext e0) (by simp; omega) (by simp); simp only [List.nil_append] at hwin1; obtain ⟨a1, d1, rfl⟩ := hwin1.len; have e1 : Ext w w1 := e0.then hk1 (fun i hi h2 => by have := own_eq h2; omega); have b0 := ((((Box.new w 71 [.int .i64 (R.most : Int), .slice a R.items.length c, .int .i64 (R.lost : Int)]).alloc (Obj.cells #[.bool true, .int .i64 key, .slice a2 xb.length c2] 152)).alloc (Obj.cells #[.int .i64 0, .slice none 0 0, .int .i64 0] 71)).alloc (Obj.cells #[] 5)).keeps hk1 (fun h2 => by have := own_eq h2; omega); have b1 := (((Box.new (w.alloc (Obj.cells #[.int .i64 (R.most : Int), .slice a R.items.length c, .int .i64 (R.lost : Int)] 71)) 152 [.bool true, .int .i64 key, .slice a2 xb.length c2]).alloc (Obj.cells #[.int .i64 0, .slice none 0 0, .int .i64 0] 71)).alloc (Obj.cells #[] 5)).keeps hk1 (fun h2 => by have := own_eq h2; simp at this); have b2 := ((Box.new ((w.alloc (Obj.cells #[.int .i64 (R.most : Int), .slice a R.items.length c, .int .i64 (R.lost : Int)] 71)).alloc (Obj.cells #[.bool true, .int .i64 key, .slice a2 xb.length c2] 152)) 71 [.int .i64 0, .slice none 0 0, .int .i64 0]).alloc (Obj.cells #[] 5)).keeps hk1 (fun h2 => by have := own_eq h2; simp at this); simp only [World.size_alloc] at b1 b2; obtain ⟨c0, z0⟩ := b0.reads; obtain ⟨c1, z1⟩ := b1.reads; obtain ⟨q2, z2⟩ := b2.reads; have l0 := b0.lt; have l1 := b1.lt; have l2 := b2.lt; have eS : Ext w ((w1.setCell ⟨w.heap.size + 1, 2, none⟩ (.slice a1 xb.length d1)).alloc (Obj.cells #[] 152)) := (e1.setNew _ _ (by simp)).alloc _; obtain ⟨cs, hrow, hsrc⟩ := items_row (hs.itExt eS); obtain ⟨v3, w3, hr3, hwin3, hk3, ho3⟩ := append_items (A := A) _ w1.heap.size (.slice (some ⟨w1.heap.size, 0, none⟩) 0 0) [] [] 69 (Win.empty (Nat.le_refl _) (by simp [World.setCell])) _ cs R.items hsrc hrow (by simp; omega) (by simp [World.setCell]); simp only [List.nil_append] at hwin3; obtain ⟨a3, d3, rfl⟩ := hwin3.len; have b30 := ((b0.other ⟨w.heap.size + 1, 2, none⟩ (.slice a1 xb.length d1) (by simp)).alloc (Obj.cells #[] 152)).keeps hk3 (fun h2 => by have := own_eq h2; omega); have b31 := ((b1.set 2 (.slice a1 xb.length d1)).alloc (Obj.cells #[] 152)).keeps hk3 (fun h2 => by have := own_eq h2; omega); have b32 := ((b2.other ⟨w.heap.size + 1, 2, none⟩ (.slice a1 xb.length d1) (by simp)).alloc (Obj.cells #[] 152)).keeps hk3 (fun h2 => by have := own_eq h2; omega); dsimp only [List.set_cons_zero, List.set_cons_succ] at b31; have e3 : Ext w w3 := eS.then hk3 (fun i hi h2 => by have := own_eq h2; omega); have hk13 : Keeps (fun k => k = w.heap.size + 1 ∨ k = w1.heap.size) w1 w3 := ((((Keeps.refl _ w1).setCell ⟨w.heap.size + 1, 2, none⟩ (.slice a1 xb.length d1) (.inl (.inl rfl)))).alloc (Obj.cells #[] 152)).then hk3 (fun i hi h2 => .inr (own_eq h2)); have hby3 := (Bytes.of_win hwin1).keeps hk13 (fun k hk h2 => by have h3 := hk.1; have h4 := hk.2; rcases h2 with h2 | h2 <;> omega); have hrow3 := hrow.mono (En' := ItemEn w3 A) fun c x h => h.keeps hk3 (fun k hk h2 => by have := HA.out k hk; have := own_eq h2; omega)
 obtain ⟨c30, z30⟩ := b30.reads; obtain ⟨c31, z31⟩ := b31.reads; obtain ⟨c32, z32⟩ := b32.reads; have l30 := b30.lt; have l31 := b31.lt; have l32 := b32.lt; have HE3 := Hd e3; have HBY := Hd hby3; have HRO3 := Hd hrow3; have HK13 := Hd hk13; have BB0 := Hd b30; have BB1 := Hd b31; have BB2 := Hd b32; have HW1 := Hd hwin1; have HW3 := Hd hwin3; have HK3 := Hd hk3; have HRO := Hd hrow; have B0 := Hd b0; have B1 := Hd b1; have B2 := Hd b2; have HE1 := Hd e1; clear hs hb hA hB hwin1 hk1 ho1 e0 e1 hwin3 hk3 ho3 hrow hsrc b0 b1 b2 eS b30 b31 b32 e3 hk13 hby3 hrow3; go_enter Tryz.func86, Tryz.ntmps86
 go_wp2_with (at_builtin; first | refine wpList_append_ran rfl _ _ hr1 rfl rfl rfl ?_ | refine wpList_append_ran rfl _ _ hr3 rfl rfl rfl ?_); refine (rside_any (A := A) w3 _ R false key (HR.out.ext HE3.out) hl (fun k hk => Nat.lt_of_lt_of_le (HA.out k hk) HE3.out.size)).mono ?_; rintro e w4 ⟨rfl, hE4⟩; rw [F33.out]; have HE34 := Hd hE4; have HE4 := Hd (HE3.out.ext hE4); have B40 := Hd (BB0.out.ext hE4); have B41 := Hd (BB1.out.ext hE4); have B42 := Hd (BB2.out.ext hE4); obtain ⟨c40, z40⟩ := B40.out.reads; obtain ⟨c41, z41⟩ := B41.out.reads; obtain ⟨c42, z42⟩ := B42.out.reads; have l40 := B40.out.lt; have l41 := B41.out.lt; have l42 := B42.out.lt; have hw4 := HW3.out.ext hE4; have HRO4 := Hd (HRO3.out.mono (En' := ItemEn w4 A) fun c x h => h.keeps hE4 (fun _ _ => noB _)); have HBY4 := Hd (HBY.out.ext hE4); have hb14 : w1.heap.size ≤ w4.heap.size := by have h1 := hE4.size; have h2 := HK13.out.size; omega
 have gl : IntKind.i64.wrap ((R.lost : Int) + 1) = (R.lost : Int) + 1 := by rw [IntWalk.i64_in _ (by omega)]
 obtain ⟨g, o, cap, hv3, hg1, hg2, hg3, hg4⟩ := hw4.form (by omega); cases hv3
 obtain ⟨-, ⟨h, -⟩ | ⟨g', o', cap', h, -, -, -, -, hth, -⟩⟩ := hw4
 · cases h
 cases h
 have hW4 : Win w4 w1.heap.size 3 (.slice (some ⟨g, o, none⟩) R.items.length d3) R.items.length cs := HW3.out.ext hE4; have i3 : (i + 1) * 3 ≤ R.items.length * 3 := Nat.mul_le_mul_right _ hi; obtain ⟨u0, hu0⟩ := Option.isSome_iff_exists.1 (hth (i * 3) (by omega)).1; obtain ⟨u1, hu1⟩ := Option.isSome_iff_exists.1 (hth (i * 3 + 1) (by omega)).1; obtain ⟨u2, hu2⟩ := Option.isSome_iff_exists.1 (hth (i * 3 + 2) (by omega)).1; have f0 := (hth (i * 3) (by omega)).2; have f1 := (hth (i * 3 + 1) (by omega)).2; have f2 := (hth (i * 3 + 2) (by omega)).2; rw [← Nat.add_assoc] at hu1 hu2 f1 f2; have hset := hW4.set i hi (c := [.bool true, .int .i64 key, .slice a1 xb.length d1]) rfl; have hsk : Keeps (OneB g) w4 (w4.setCells g (o + i * 3) [.bool true, .int .i64 key, .slice a1 xb.length d1]) := (Keeps.refl _ _).setCells _ _ _ (.inl rfl); have hrs := (HRO4.out.mono (En' := ItemEn w4 (fun k => A k ∨ (w.heap.size + 1 + 1 + 1 ≤ k ∧ k < w1.heap.size))) fun c x h => h.mono fun k hk => .inl hk).set (x := ⟨true, key, xb⟩) ⟨_, rfl, HBY4.out.mono fun k hk => Or.inr hk⟩ (rfl : ([Value.bool true, .int .i64 key, .slice a1 xb.length d1] : List Value).length = 3) i hi
 have hrs2 := hrs.mono (En' := ItemEn (w4.setCells g (o + i * 3) [.bool true, .int .i64 key, .slice a1 xb.length d1]) (fun k => A k ∨ (w.heap.size + 1 + 1 + 1 ≤ k ∧ k < w1.heap.size))) fun c x h => h.keeps hsk fun k hk h2 => by
  unfold OneB at h2; rcases hk with hk | hk
  · exact absurd (HA.out k hk) (by omega)
  · omega
 simp only [World.setCells] at hset hsk hrs2; have b50 := B40.out.keeps hsk (fun h2 => by unfold OneB at h2; omega); have b51 := B41.out.keeps hsk (fun h2 => by unfold OneB at h2; omega); have b52 := B42.out.keeps hsk (fun h2 => by unfold OneB at h2; omega); have hE5 := HE4.out.then hsk (fun i hi h2 => by unfold OneB at h2; omega); obtain ⟨c50, z50⟩ := b50.reads; obtain ⟨c51, z51⟩ := b51.reads; obtain ⟨c52, z52⟩ := b52.reads; have HSET := Hd hset; have HROS := Hd hrs2; have HB52 := Hd b52; have HE5 := Hd hE5; have HSK := Hd hsk; have gi : ¬ ((i : Int) < 0) := by omega
 have gi0 : (0 : Int) ≤ (i : Int) := by omega
 have gi1 : (i : Int) < (R.items.length : Int) := by omega
 clear hE4 c0 c1 q2 z0 z1 z2 c30 c31 c32 z30 z31 z32 hr1 hr3 hset hrs hrs2 hsk hth hg4 b50 b51 b52 hE5 hW4; go_wp2_with fail; obtain ⟨w5, h5⟩ : ∃ w5, ((w4.setCell ⟨g, o + i * 3, none⟩ (Value.bool true)).setCell ⟨g, o + i * 3 + 1, none⟩ (Value.int IntKind.i64 key)).setCell ⟨g, o + i * 3 + 2, none⟩ (Value.slice a1 xb.length d1) = w5 := ⟨_, rfl⟩; have k1 : Win w5 w1.heap.size 3 (.slice (some ⟨g, o, none⟩) R.items.length d3) R.items.length (cs.take (i * 3) ++ ([.bool true, .int .i64 key, .slice a1 xb.length d1] ++ cs.drop ((i + 1) * 3))) := by rw [← h5]; exact HSET.out
 have k2 : RowOf 3 (ItemEn w5 (fun k => A k ∨ (w.heap.size + 1 + 1 + 1 ≤ k ∧ k < w1.heap.size))) (cs.take (i * 3) ++ ([.bool true, .int .i64 key, .slice a1 xb.length d1] ++ cs.drop ((i + 1) * 3))) (R.items.set i ⟨true, key, xb⟩) := by rw [← h5]; exact HROS.out
 have k3 : Box w5 (w.heap.size + 1 + 1) 71 [.int .i64 0, .slice none 0 0, .int .i64 0] := by rw [← h5]; exact HB52.out
 have k4 : Ext w w5 := by rw [← h5]; exact HE5.out
 have k5 : w4.heap.size ≤ w5.heap.size := by rw [← h5]; exact HSK.out.size
 rw [h5]; have r1 := (((k3.set 0 (.int .i64 (R.most : Int))).set 1 (.slice (some ⟨g, o, none⟩) R.items.length d3)).set 2 (.int .i64 ((R.lost : Int) + 1))).reads.1; dsimp only [List.set_cons_zero, List.set_cons_succ] at r1; clear c50 c51 c52 z50 z51 z52 c40 c41 c42 z40 z41 z42 hu0 hu1 hu2 f0 f1 f2 h5; refine bodyPost_ret (v := .tuple #[.agg #[.int .i64 (R.most : Int), .slice (some ⟨g, o, none⟩) R.items.length d3, .int .i64 ((R.lost : Int) + 1)], .int .i64 1, .int .i64 0]) (by simp [results, Tryz.results86, go_sem, r1]) rfl ?_; have hlen : R.items.length = (R.items.set i ⟨true, key, xb⟩).length := by simp
 obtain ⟨f1, f2⟩ := rput_fin (A := A) (q := w.heap.size + 1 + 1) (most := R.most) (lost := R.lost + 1) (v := .slice (some ⟨g, o, none⟩) R.items.length d3) (z0 := .int .i64 (R.most : Int)) (z1 := .slice (some ⟨g, o, none⟩) R.items.length d3) (z2 := .int .i64 ((R.lost : Int) + 1)) (by rw [← hlen]; exact k1) k2 k4 (by omega) (by omega) (by omega) (fun k hk => by
  rcases hk with hk | hk
  · have := HA.out k hk; exact ⟨by omega, .inl hk⟩
  · exact ⟨by omega, .inr ⟨by omega, by omega⟩⟩)
 exact RPutPost.mk (n := 1) (m := 0) HP.out f1 f2
theorem rput_any {A B : Nat → Prop} (w : World) (v vx : Value) (R : AR) (x : It) (h : RefV w A v R) (hv : ItemV w B vx x) (hl : R.items.length ≤ 1000) (hm : R.most ≤ 1000) (hlost : R.lost ≤ 1000000) (hx : x.bytes.length ≤ 1000000)
 (hA : ∀ k, A k → k < w.heap.size) (hB : ∀ k, B k → k < w.heap.size) : Calls Tryz.prog 86 #[v, vx] w (RPutPost w A R x) := by
 by_cases h1 : x.side = false ∧ x.key ≠ 0
 · exact rput_early w v vx R x h hv hx (.inl h1)
 by_cases h2 : 1024 < x.bytes.length
 · exact rput_early w v vx R x h hv hx (.inr ⟨h1, h2⟩)
 obtain ⟨xs, xk, xb⟩ := x; dsimp only at h1 h2 hx; cases xs with
 | false =>
   have hk0 : xk = 0 := by simpa using h1
   subst hk0; exact rput_main w v vx R 0 xb h hv hl hm hlost (by omega) hA hB (p33_main _ _ rfl)
 | true =>
   cases h33 : R.items.findIdx? (p33 ⟨true, xk, xb⟩) with
   | none => exact rput_side w v vx R xk xb h hv hl hm hlost (by omega) hA hB h33
   | some i => exact rput_same w v vx R xk xb i h hv hl hm hlost (by omega) hA hB h33
section
def RefX (w : World) (M : Nat → Prop) (v : Value) (R : AR) : Prop := ∃ A, RefV w A v R ∧ ∀ k, A k → k < w.heap.size ∧ ¬ M k
section
variable {w w' : World} {S M M' : Nat → Prop} {v : Value} {R : AR}
theorem RefX.keeps (h : RefX w M v R) (hk : Keeps S w w') (hs : ∀ k, k < w.heap.size → S k → M k) : RefX w' M v R :=
 let ⟨A, h1, h2⟩ := h
 ⟨A, h1.keeps hk fun k ha hS => (h2 k ha).2 (hs k (h2 k ha).1 hS), fun k ha => ⟨Nat.lt_of_lt_of_le (h2 k ha).1 hk.size, (h2 k ha).2⟩⟩
theorem RefX.ext (h : RefX w M v R) (hk : Ext w w') : RefX w' M v R := h.keeps hk fun _ _ h => (noB _ h).elim
theorem RefX.of {A : Nat → Prop} (h : RefV w A v R) (hA : ∀ k, A k → k < w.heap.size ∧ ¬ M k) : RefX w M v R := ⟨A, h, hA⟩
theorem RefX.put {w0 : World} {A : Nat → Prop} (h : RefV w (fun k => A k ∨ (w0.heap.size ≤ k ∧ k < w.heap.size)) v R) (hA : ∀ k, A k → k < w0.heap.size ∧ ¬ M k) (hM : ∀ k, M k → k < w0.heap.size) (hs : w0.heap.size ≤ w.heap.size) : RefX w M v R :=
 ⟨_, h, fun k hk => by
  rcases hk with hk | hk
  · exact ⟨Nat.lt_of_lt_of_le (hA k hk).1 hs, (hA k hk).2⟩
  · exact ⟨hk.2, fun hm => absurd (hM k hm) (by omega)⟩⟩
theorem RefX.len (h : RefX w M v R) : ∃ a c, v = .agg #[.int .i64 (R.most : Int), .slice a R.items.length c, .int .i64 (R.lost : Int)] := by
 obtain ⟨A, ⟨sv, rfl, hs⟩, -⟩ := h; obtain ⟨a, c, rfl, -⟩ := hs.itAt; exact ⟨_, _, rfl⟩
end
theorem RefX.itAt {w : World} {M : Nat → Prop} {R : AR} {a : Option Addr} {n c : Nat} {z0 z1 : Value} (h : RefX w M (.agg #[z0, .slice a n c, z1]) R) :
 n = R.items.length ∧ ∀ i (hi : i < R.items.length), ∃ A b o, a = some ⟨b, o, none⟩ ∧ R.items.length ≤ c ∧ b < w.heap.size ∧ ItemAt w A b (o + i * 3) R.items[i] := by
 obtain ⟨A, ⟨sv, he, hs⟩, hA⟩ := h; obtain ⟨a', c', rfl, hat⟩ := hs.itAt; simp only [Value.agg.injEq, Array.mk.injEq, List.cons.injEq, Value.slice.injEq] at he; obtain ⟨-, ⟨rfl, rfl, rfl⟩, -⟩ := he; refine ⟨rfl, fun i hi => ?_⟩; obtain ⟨b, o, h1, h2, h3, h4⟩ := hat i hi; exact ⟨A, b, o, h1, h2, (hA b h3).1, h4⟩
end

section
attribute [local go_sem] Oper.semAt_some
end
section
attribute [local go_sem] Oper.semAt_some
theorem SeqAt.lt {w : World} {A : Nat → Prop} {bx : Nat} {l : List It} (h : SeqAt w A bx l) : bx < w.heap.size := let ⟨_, h1, _⟩ := h; World.block_lt_of_cell? _ _ h1
end
section
attribute [local go_sem] Oper.semAt_some
end

def ringR (b : Nat) (R : AR) : Res := anyR (fun F w => ∃ f A, RingAt w A b f R ∧ ¬ A b ∧ (∀ k, A k → k < w.heap.size) ∧ ∀ k, F k ↔ A k ∨ k = b)
 (fun ⟨f, A, h1, h2, h3, h4⟩ hk hs => ⟨f, A, h1.keeps hk (hs b ((h4 b).2 (.inr rfl))) (fun k ha => hs k ((h4 k).2 (.inl ha))), h2, fun k ha => Nat.lt_of_lt_of_le (h3 k ha) hk.size, h4⟩)
 (fun ⟨f, A, h1, h2, h3, h4⟩ k hk => ((h4 k).1 hk).elim (h3 k) fun e => e ▸ h1.lt)
theorem ringR.x {b : Nat} {R : AR} {C : Nat → Prop} {w : World} (h : (ringR b R).p C w) : RingX w (fun k => ¬ C k) b R :=
 let ⟨f, A, h1, h2, h3, h4⟩ := h
 ⟨f, A, h1, h2, fun k hk => ⟨h3 k hk, fun hn => hn ((h4 k).2 (.inl hk))⟩⟩
theorem ringR.own {b : Nat} {R : AR} {C : Nat → Prop} {w : World} (h : (ringR b R).p C w) : C b := let ⟨f, A, h1, h2, h3, h4⟩ := h; (h4 b).2 (.inr rfl)
theorem ringR.upd {b : Nat} {R' : AR} {C A A' : Nat → Prop} {f' : Nat} {w w' : World} (hC : ∀ k, C k ↔ A k ∨ k = b) (hb : ¬ A' b) (hA' : ∀ k, A' k → A k ∨ (w.heap.size ≤ k ∧ k < w'.heap.size)) (hA : ∀ k, A k → k < w.heap.size)
 (h : RingAt w' A' b f' R') (hk : Keeps (OneB b) w w') : Upd C w w' (ringR b R') :=
 ⟨fun k => A' k ∨ k = b, ⟨f', A', h, hb, fun k hk' => (hA' k hk').elim (fun g => Nat.lt_of_lt_of_le (hA k g) hk.size) (·.2), fun k => Iff.rfl⟩, hk.mono fun k _ h => (hC k).2 (.inr h), fun k hk' => by
  rcases hk' with hk' | hk'
  · exact (hA' k hk').elim (fun g => .inl ((hC k).2 (.inl g))) fun g => .inr g.1
  · exact .inl ((hC k).2 (.inr hk'))⟩
theorem put_r {C B : Nat → Prop} (w : World) (b : Nat) (R : AR) (x : It) (v : Value) (h : (ringR b R).p C w) (hv : ItemV w B v x) (hB : ¬ B b) (hx : x.bytes.length ≤ 1000000) (hlost : R.lost ≤ 1000000) :
 Calls Tryz.prog 93 #[.pointer (some ⟨b, 0, none⟩), v] w fun e w' => e = .returned (.tuple #[.int .i64 ((R.put x).2.1 : Nat), .int .i64 ((R.put x).2.2 : Nat)]) ∧ Upd C w w' (ringR b (R.put x).1) := by
 obtain ⟨f, A, h1, h2, h3, h4⟩ := h; have hbl := h1.lt; refine (put_ring w b f R x v h1 h2 hv hB hx hlost).mono fun e w' ⟨e1, e2, e3⟩ => ⟨e1, ringR.upd h4 ?_ (fun k hk => hk) h3 e2 e3⟩
 rintro (hk | hk)
 · exact h2 hk
 · omega
theorem take_r {C : Nat → Prop} (w : World) (b m l : Nat) (x : It) (r : List It) (h : (ringR b ⟨m, l, x :: r⟩).p C w) :
 Calls Tryz.prog 108 #[.pointer (some ⟨b, 0, none⟩)] w fun e w' => ∃ v, e = .returned (.tuple #[v, .bool true]) ∧ ItemV w' (fun k => C k ∧ k ≠ b) v x ∧ Upd C w w' (ringR b ⟨m, l, r⟩) := by
 obtain ⟨f, A, h1, h2, h3, h4⟩ := h; refine (take_ring w b f m l x r h1 h2 h3).mono fun e w' ⟨v, e1, e2, e3, e4⟩ => ⟨v, e1, e2.mono fun k hk => ⟨(h4 k).2 (.inl hk), fun e => h2 (e ▸ hk)⟩, ringR.upd h4 h2 (fun k hk => .inl hk) h3 e3 e4⟩
theorem take_r0 {C : Nat → Prop} (w : World) (b m l : Nat) (h : (ringR b ⟨m, l, []⟩).p C w) :
 Calls Tryz.prog 108 #[.pointer (some ⟨b, 0, none⟩)] w fun e w' => e = .returned (.tuple #[.agg #[.bool false, .int .i64 0, .slice none 0 0], .bool false]) ∧ Ext w w' := by
 obtain ⟨f, A, h1, h2, h3, h4⟩ := h; exact take_empty w b f m l h1
theorem clear_r {C : Nat → Prop} (w : World) (b m l : Nat) (its : List It) (h : (ringR b ⟨m, l, its⟩).p C w) :
 Calls Tryz.prog 103 #[.pointer (some ⟨b, 0, none⟩)] w fun e w' => e = .returned (.int .i64 (its.length : Nat)) ∧ Upd C w w' (ringR b ⟨m, l, []⟩) := by
 obtain ⟨f, A, h1, h2, h3, h4⟩ := h; exact (clear_ring w b f m l its h1 h2 h3).mono fun e w' ⟨e1, ⟨f', e2⟩, e3⟩ => ⟨e1, ringR.upd h4 h2 (fun k hk => .inl hk) h3 e2 e3⟩
theorem len_r {C : Nat → Prop} (w : World) (b : Nat) (R : AR) (h : (ringR b R).p C w) (hx : ∀ x ∈ R.items, x.bytes.length ≤ 1000000) :
 Calls Tryz.prog 104 #[.pointer (some ⟨b, 0, none⟩)] w (LenPost w R.items) := by
 obtain ⟨f, A, h1, h2, h3, h4⟩ := h; exact len_ring w b f R h1 hx
theorem new_r (w : World) (m : Nat) (h1 : 1 ≤ m) (h2 : m ≤ 64) :
 Calls Tryz.prog 76 #[.int .i64 (m : Int)] w fun e w' => ∃ b, e = .returned (.tuple #[.pointer (some ⟨b, 0, none⟩), .int .i64 0]) ∧ Upd NoB w w' (ringR b ⟨m, 0, []⟩) :=
 (new_yes w m h1 h2).mono fun e w' ⟨e1, e2, e3⟩ => ⟨_, e1, fun k => False ∨ k = w.heap.size, ⟨0, _, e2, fun h => h, fun _ h => h.elim, fun k => Iff.rfl⟩, e3, fun k hk => by
  rcases hk with hk | hk
  · exact hk.elim
  · exact .inr (by omega)⟩
def seqR (bx : Nat) (l : List It) : Res := anyR (fun F w => ∃ A, SeqAt w A bx l ∧ (∀ k, A k → k < w.heap.size) ∧ ∀ k, F k ↔ A k ∨ k = bx)
 (fun ⟨A, h1, h2, h3⟩ hk hs => ⟨A, h1.keeps hk (hs bx ((h3 bx).2 (.inr rfl))) (fun k ha => hs k ((h3 k).2 (.inl ha))), fun k ha => Nat.lt_of_lt_of_le (h2 k ha) hk.size, h3⟩)
 (fun ⟨A, h1, h2, h3⟩ k hk => ((h3 k).1 hk).elim (h2 k) fun e => e ▸ h1.lt)
theorem all_r {C : Nat → Prop} (w : World) (b : Nat) (R : AR) (h : (ringR b R).p C w) (hx : ∀ x ∈ R.items, x.bytes.length ≤ 1000000) :
 Calls Tryz.prog 167 #[.pointer (some ⟨b, 0, none⟩)] w fun e w' => ∃ bx, e = .returned (.func (.func 217) #[] #[.pointer (some ⟨bx, 0, none⟩)]) ∧ Upd NoB w w' (seqR bx R.items) := by
 obtain ⟨f, A, h1, h2, h3, h4⟩ := h; refine (all_ring w b f R h1 hx).mono fun e w' ⟨e1, e2, e3⟩ => ⟨_, e1, fun k => (w.heap.size ≤ k ∧ k < w'.heap.size) ∨ k = w.heap.size, ⟨_, e2, fun k hk => hk.2, fun k => Iff.rfl⟩, e3, fun k hk => .inr ?_⟩
 rcases hk with hk | hk
 · exact hk.1
 · omega
section
attribute [local go_sem] Oper.semAt_some
def seqV (bx : Nat) (sv : Value) (l : List It) : Res := anyR (fun F w => w.cell? ⟨bx, 0, none⟩ = some sv ∧ F bx ∧ SlV F (ItemAt w F) 3 sv l ∧ ∀ k, F k → k < w.heap.size)
 (fun ⟨h1, h2, h3, h4⟩ hk hs => ⟨hk.cell (hs _ h2) h1, h2, SlV.mono h3 (fun _ h => h) fun b o x hb hi => hi.keeps hk (hs b hb) hs, fun k hF => Nat.lt_of_lt_of_le (h4 k hF) hk.size⟩) (fun h => h.2.2.2)
theorem seqV_of {bx : Nat} {l : List It} {A : Nat → Prop} {w : World} (h : (seqR bx l).p A w) : ∃ sv, (seqV bx sv l).p A w := by
 obtain ⟨B, ⟨sv, h1, h2⟩, h3, h4⟩ := h; have hb : ∀ k, B k → A k := fun k hk => (h4 k).2 (.inl hk)
 exact ⟨sv, h1, (h4 bx).2 (.inr rfl), SlV.mono h2 hb fun b o x _ hi => hi.mono hb, fun k hk => ((h4 k).1 hk).elim (h3 k) fun e => e ▸ World.block_lt_of_cell? _ _ h1⟩
def itemR (v : Value) (x : It) : Res := anyR (fun F w => ItemV w F v x ∧ ∀ k, F k → k < w.heap.size) (fun h hk hs => ⟨h.1.keeps hk hs, fun k hF => Nat.lt_of_lt_of_le (h.2 k hF) hk.size⟩) (fun h => h.2)
def ItRv (x : It) (v : Array Value) (F : Nat → Prop) (w : World) : Prop := ∃ y B, v = #[y] ∧ ItemV w B y x ∧ ∀ k, B k → ¬ F k ∧ k < w.heap.size
theorem itRv_ok : RvOK ItRv where
 step := fun ⟨y, B, h1, h2, h3⟩ hk hg => ⟨y, B, h1, h2.keeps hk fun k hB hF => (h3 k hB).1 hF, fun k hB => ⟨fun hG => (hg k hG).elim (h3 k hB).1 (by have := (h3 k hB).2; omega), Nat.lt_of_lt_of_le (h3 k hB).2 hk.size⟩⟩
theorem iter_items (bx : Nat) (sv : Value) (l : List It) (hx : ∀ x ∈ l, x.bytes.length ≤ 1000000) (hl : l.length ≤ 1000) :
 IterR Fence.wide 8 Tryz.prog 217 #[.pointer (some ⟨bx, 0, none⟩)] l ItRv NoX (seqV bx sv l) (seqV bx sv l) := by
 intro ll R Rx W A h0 _ hround; have hm1 := Mem.ofSep h0; obtain ⟨A0, hA0⟩ := hm1.get (r := seqV bx sv l) .here
 obtain ⟨a, c, rfl⟩ : ∃ a c, sv = .slice a l.length c := by
  rcases hA0.2.2.1 with ⟨a, rfl, rfl⟩ | ⟨b, o, c, rfl, _⟩
  · exact ⟨_, _, rfl⟩
  · exact ⟨_, _, rfl⟩
 have c0 := hA0.1; have hbx := World.block_lt_of_cell? _ _ c0; have HM := Hd hm1; have HR := Hd hround; have HX := Hd hx; clear h0 hround hm1 hA0 hx; clear A0; refine callsIn_of_wp Tryz.func217 rfl trivial ?_ rfl; simp only [Tryz.ntmps217, List.size_toArray, List.length_cons, List.length_nil, Nat.reduceAdd, Nat.reduceSub, Array.replicate_succ, Array.replicate_zero, List.push_toArray, List.append_toArray, List.nil_append, List.cons_append]; refine wpIn_scope ?_; gi_wp2
 refine wpIn_label ?_; gi_wp2_with fail
 gi_loopw [7] (fun t wr => ∃ k : Nat, k ≤ l.length ∧ t = .int .i64 k ∧ Hid (Mem A W wr [seqV bx (.slice a l.length c) l, R k])) (fun t _ => l.length - (intOf t).toNat)
 case atStart => exact ⟨0, by omega, rfl, HM⟩
 case round =>
  clear HM; obtain ⟨k, hk, rfl, HM⟩ := hrel; by_cases hlt : k < l.length
  · obtain ⟨A1, hA1⟩ := HM.out.get (r := seqV bx (.slice a l.length c) l) pk
    rcases hA1.2.2.1 with ⟨_, _, h0'⟩ | ⟨b, o, c', hsv, hlc, hAb, hat⟩
    · exact absurd hlt (by rw [h0']; simp)
    · injection hsv with hsv1 hsv2 hsv3
      subst hsv1 hsv3; obtain ⟨i1, i2, bv, i3, i4⟩ := hat k hlt; obtain ⟨a2, c2, rfl⟩ := i4.len; have hxk := HX.out _ (List.getElem_mem hlt); have HYK := Hd (HR.out k hlt); generalize l[k] = x at *
      have hlw := World.block_lt_of_cell? _ _ i1; have HI := Hd i4; have hl' : l.length ≤ c := hlc; have g1 : (k : Int) < l.length := by omega
      clear i4 hat hlc hA1; gi_wp2_with fail
      refine ⟨trivial, callsIn_wide.2 ((told_any (A := A1) _ x _ ⟨_, rfl, HI.out.ext ((Keeps.refl _ _).alloc _)⟩ hxk).mono ?_)⟩; rintro e W2 ⟨v', rfl, hv', hW⟩; have hm2 := (HM.out.ext ((Keeps.refl NoB wr).alloc (Obj.cells #[Value.bool x.side, Value.int .i64 x.key, Value.slice a2 x.bytes.length c2] 152))).new (r := itemR v' x) hW ⟨hv', fun k hk => hk.2⟩ (fun k hk => hk.1); replace HM := Hd hm2; clear hm2 hv' hW; obtain ⟨F1, B, hF1, hB, hd, hFA, hS⟩ := HM.out.beside (r := R k) (x := itemR v' x) pk pk; obtain ⟨fn, tmps, assign, body, hy, hRd⟩ := HYK.out #[v'] W2 F1 hFA hF1 ⟨v', B, rfl, hB.1, fun j hj => ⟨hd j hj, hB.2 j hj⟩⟩; have HRd := Hd hRd; have HSS := Hd hS; clear hRd hS hd hB hF1 hFA; gi_wp2_with fail
      refine (roundIn_wide HRd.out).mono ?_; rintro e W3 (⟨rfl, hU⟩ | ⟨rfl, hU⟩)
      · replace HM := Hd (HSS.out _ _ hU)
        clear hU HSS hy HRd; gi_wp2_with fail
        go_roundw
        case rel => exact ⟨k + 1, by omega, by go_num, Hd (Mem.sub HM.out sbI)⟩
        case measure => simp [intOf]; omega
      · replace HM := Hd (HSS.out _ _ hU)
        clear hU HSS hy HRd; gi_wp2_with fail
        rw [Exit.noGoto_normal]; refine bodyPost_end (results_none rfl _ _ _) rfl ?_; exact ⟨⟨_, rfl⟩, _, .inr ⟨k, hlt, rfl⟩, (Mem.sub (L' := [seqV bx (.slice (some ⟨b, o, none⟩) l.length c) l, Rx (k + 1)]) HM.out sbI).updAll⟩
  · obtain rfl : k = l.length := by omega
    gi_wp2_with fail
    rw [Exit.noGoto_normal]; refine bodyPost_end (results_none rfl _ _ _) rfl ?_; exact ⟨⟨_, rfl⟩, _, .inl rfl, HM.out.updAll⟩
end
end Go.Proofs.YtoadjbgpfihoiaaGreatDoor
