/- Texts Ref, RefB, RefC, RefD, one behind the other. Conditions: as each says. -/
import Derived.Test.YtoadjbgpfihoiaaGreatDoorPlW
set_option linter.unusedVariables false
set_option linter.unusedSimpArgs false
set_option maxHeartbeats 8000000
set_option maxRecDepth 100000
namespace Go.Proofs.YtoadjbgpfihoiaaGreatDoor
open Go.RowKit
section
def RefV (w : World) (A : Nat → Prop) (v : Value) (R : AR) : Prop := ∃ sv, v = .agg #[.int .i64 (R.most : Int), sv, .int .i64 (R.lost : Int)] ∧ SlV A (ItemAt w A) 3 sv R.items
section
variable {w w' : World} {S A A' : Nat → Prop} {v : Value} {R : AR} {l : List It}
theorem SlV.itKeeps (h : SlV A (ItemAt w A) 3 v l) (hk : Keeps S w w') (hA : ∀ k, A k → ¬ S k) : SlV A (ItemAt w' A) 3 v l :=
 SlV.mono h (fun _ h => h) fun b o x hb hi => hi.keeps hk (hA b hb) hA
theorem SlV.itExt (h : SlV A (ItemAt w A) 3 v l) (hk : Ext w w') : SlV A (ItemAt w' A) 3 v l := h.itKeeps hk fun _ _ => noB _
theorem SlV.itMono (h : SlV A (ItemAt w A) 3 v l) (hA : ∀ k, A k → A' k) : SlV A' (ItemAt w A') 3 v l :=
 SlV.mono h hA fun b o x hb hi => hi.mono hA
theorem SlV.itAt (h : SlV A (ItemAt w A) 3 v l) : ∃ a c, v = .slice a l.length c ∧ ∀ i (h : i < l.length), ∃ b o, a = some ⟨b, o, none⟩ ∧ l.length ≤ c ∧ A b ∧ ItemAt w A b (o + i * 3) l[i] := by
 rcases h with ⟨a, rfl, rfl⟩ | ⟨b, o, c, rfl, h1, h2, h3⟩
 · exact ⟨_, _, rfl, fun i hi => by simp at hi⟩
 · exact ⟨_, _, rfl, fun i hi => ⟨b, o, rfl, h1, h2, h3 i hi⟩⟩
theorem RefV.keeps (h : RefV w A v R) (hk : Keeps S w w') (hA : ∀ k, A k → ¬ S k) : RefV w' A v R :=
 let ⟨sv, h1, h2⟩ := h
 ⟨sv, h1, h2.itKeeps hk hA⟩
theorem RefV.ext (h : RefV w A v R) (hk : Ext w w') : RefV w' A v R := h.keeps hk fun _ _ => noB _
theorem RefV.mono (h : RefV w A v R) (hA : ∀ k, A k → A' k) : RefV w A' v R :=
 let ⟨sv, h1, h2⟩ := h
 ⟨sv, h1, h2.itMono hA⟩
end
theorem rnew_no (w : World) (m : Int) (h : m < 1 ∨ 64 < m) :
 Calls Tryz.prog 80 #[.int .i64 m] w fun e w' => e = .returned (.tuple #[.agg #[.int .i64 0, .slice none 0 0, .int .i64 0], .int .i64 2]) ∧ Ext w w' := by
 have hx : m < 1 ∨ (¬ m < 1 ∧ 64 < m) := by omega
 rcases hx with h | ⟨h', h⟩
 all_goals
  go_enter Tryz.func80, Tryz.ntmps80
  go_wp2
  refine bodyPost_ret (v := .tuple #[.agg #[.int .i64 0, .slice none 0 0, .int .i64 0], .int .i64 2]) (by simp [results, Tryz.results80, go_sem]) rfl ⟨rfl, ?_⟩; repeat (first | exact Keeps.refl _ _ | refine Keeps.alloc ?_ _ | refine Keeps.setNew ?_ _ _ (by simp; done))
theorem rnew_yes (w : World) (m : Nat) (h1 : 1 ≤ m) (h2 : m ≤ 64) :
 Calls Tryz.prog 80 #[.int .i64 (m : Int)] w fun e w' => e = .returned (.tuple #[.agg #[.int .i64 (m : Int), .slice none 0 0, .int .i64 0], .int .i64 0]) ∧ Ext w w' := by
 have g1 : ¬ ((m : Int) < 1) := by omega
 have g2 : ¬ (64 < (m : Int)) := by omega
 go_enter Tryz.func80, Tryz.ntmps80
 go_wp2
 refine bodyPost_ret (v := .tuple #[.agg #[.int .i64 (m : Int), .slice none 0 0, .int .i64 0], .int .i64 0]) (by simp [results, Tryz.results80, go_sem]) rfl ⟨rfl, ?_⟩; repeat (first | exact Keeps.refl _ _ | refine Keeps.alloc ?_ _ | refine Keeps.setNew ?_ _ _ (by simp; done))
def pside (any : Bool) (key : Int) (y : It) : Bool := y.side && (any || y.key == key)
theorem rside_any {A : Nat → Prop} (w : World) (v : Value) (R : AR) (any : Bool) (key : Int) (h : RefV w A v R) (hl : R.items.length ≤ 1000) (hA : ∀ k, A k → k < w.heap.size) :
 Calls Tryz.prog 144 #[v, .bool any, .int .i64 key] w fun e w' => e = .returned (.int .i64 (findI (pside any key) R.items)) ∧ Ext w w' := by
 obtain ⟨sv, rfl, hs⟩ := h; obtain ⟨a, c, rfl, hat⟩ := hs.itAt; have HAT := Hd hat; have HA := Hd hA; clear hs hat hA; go_enter Tryz.func144, Tryz.ntmps144
 go_wp2_with fail; have bx0 := (Box.new w 71 [.int .i64 (R.most : Int), .slice a R.items.length c, .int .i64 (R.lost : Int)]); have ex : Ext w (w.alloc (Obj.cells #[.int .i64 (R.most : Int), .slice a R.items.length c, .int .i64 (R.lost : Int)] 71)) := ((Keeps.refl NoB w).alloc _); have sx : (w.alloc (Obj.cells #[.int .i64 (R.most : Int), .slice a R.items.length c, .int .i64 (R.lost : Int)] 71)).heap.size = w.heap.size + 1 := by simp
 generalize (w.alloc (Obj.cells #[.int .i64 (R.most : Int), .slice a R.items.length c, .int .i64 (R.lost : Int)] 71)) = w0 at bx0 ex sx ⊢
 have Sx := Hd sx; clear sx; obtain ⟨c0, z0⟩ := bx0.reads; have l0 := bx0.lt; have HE := Hd ex; clear ex bx0; go_loop [7] (fun i => ∃ k : Nat, k ≤ R.items.length ∧ i = .int .i64 k ∧ Hid (∀ j (h : j < R.items.length), j < k → pside any key R.items[j] = false)) (fun i => R.items.length - (intOf i).toNat)
 case atStart => exact ⟨0, Nat.zero_le _, rfl, fun j _ h => by omega⟩
 case round =>
  obtain ⟨k, hk, rfl, hn⟩ := hrel; by_cases hlt : k < R.items.length
  · obtain ⟨b, o, rfl, hc, hAb, i1, i2, bv, i3, i4⟩ := HAT.out k hlt
    have hbl := HA.out b hAb; have j1 := Ext.cell HE.out i1; have j2 := Ext.cell HE.out i2; have hbl0 : b < w0.heap.size := Nat.lt_of_lt_of_le hbl HE.out.size; clear i1 i2 i3 i4; cases hp : pside any key R.items[k] with
    | true =>
      have HF := Hd (findI_some hlt hp fun j h h' => hn.out j h h'); unfold pside at hp; generalize R.items[k] = y at hp j1 j2
      obtain ⟨ys, yk, yb⟩ := y; dsimp only at hp j1 j2; simp only [Bool.and_eq_true, Bool.or_eq_true, beq_iff_eq] at hp; obtain ⟨rfl, hp⟩ := hp; cases any with
      | true =>
        clear hp; go_wp2_with fail; go_ret; exact ⟨by rw [HF.out]; rfl, HE.out⟩
      | false =>
        obtain rfl : yk = key := by simpa using hp
        clear hp; go_wp2_with fail; go_ret; exact ⟨by rw [HF.out]; rfl, HE.out⟩
    | false =>
      have HF : Hid (∀ j (h : j < R.items.length), j < k + 1 → pside any key R.items[j] = false) := fun j h h' => by
       by_cases hjk : j = k
       · subst hjk; exact hp
       · exact hn.out j h (by omega)
      unfold pside at hp; generalize R.items[k] = y at hp j1 j2
      obtain ⟨ys, yk, yb⟩ := y; dsimp only at hp j1 j2; cases ys with
      | false =>
        clear hp; go_wp2_with fail; go_round
        case rel => exact ⟨k + 1, by omega, by go_num, HF⟩
        case measure => simp [intOf]; omega
      | true =>
        rw [Bool.true_and, Bool.or_eq_false_iff] at hp; obtain ⟨rfl, hp⟩ := hp; go_wp2_with fail; go_round
        case rel => exact ⟨k + 1, by omega, by go_num, HF⟩
        case measure => simp [intOf]; omega
  · have HF : Hid (findI (pside any key) R.items = -1) := findI_none fun j h => hn.out j h (by omega)
    clear hn; go_wp2_with fail; go_ret; exact ⟨by rw [HF.out]; rfl, HE.out⟩
end

theorem ItemEn.keeps {S A : Nat → Prop} {w w' : World} {c : List Value} {x : It} (h : ItemEn w A c x) (hk : Keeps S w w') (hA : ∀ k, A k → ¬ S k) : ItemEn w' A c x :=
 let ⟨bv, h1, h2⟩ := h
 ⟨bv, h1, h2.keeps hk hA⟩
theorem ItemEn.mono {A A' : Nat → Prop} {w : World} {c : List Value} {x : It} (h : ItemEn w A c x) (hA : ∀ k, A k → A' k) : ItemEn w A' c x :=
 let ⟨bv, h1, h2⟩ := h
 ⟨bv, h1, h2.mono hA⟩
theorem ItemEn.one {A : Nat → Prop} {w : World} {c : List Value} {x : It} (h : ItemEn w A c x) : ∀ u ∈ c, u.oneCell' = true := by
 obtain ⟨bv, rfl, hb⟩ := h; obtain ⟨a, n, rfl⟩ := hb.len; intro u hu; simp at hu; rcases hu with rfl | rfl | rfl <;> rfl
theorem ItemAt.en {A : Nat → Prop} {w : World} {b o : Nat} {x : It} (h : ItemAt w A b o x) : ∃ c, ItemEn w A c x ∧ c.length = 3 ∧ ∀ j, j < 3 → w.cell? ⟨b, o + j, none⟩ = c[j]? := by
 obtain ⟨i1, i2, bv, i3, i4⟩ := h; refine ⟨_, ⟨bv, rfl, i4⟩, rfl, fun j hj => ?_⟩; match j, hj with
 | 0, _ => exact i1
 | 1, _ => exact i2
 | 2, _ => exact i3
theorem items_row {A : Nat → Prop} {w : World} {v : Value} {l : List It} (h : SlV A (ItemAt w A) 3 v l) : ∃ cs, RowOf 3 (ItemEn w A) cs l ∧ SrcCells w v l.length cs :=
 SlV.row h fun b o x _ hx => hx.en
theorem append_items {A : Nat → Prop} (w : World) (base : Nat) (v : Value) (cs : List Value) (l : List It) (ty : TypeId) (hw : Win w base 3 v l.length cs) (x : Value) (news : List Value) (l' : List It) (hsrc : SrcCells w x l'.length news) (hr' : RowOf 3 (ItemEn w A) news l')
 (hl : l.length + l'.length ≤ 1000000) (hb : base ≤ w.heap.size) :
 ∃ v' w', (Builtin.append_ #[69, 69] ty #[v, x]).run Tryz.prog w = .ok v' w' ∧ Win w' base 3 v' (l ++ l').length (cs ++ news) ∧ Keeps (Own v) w w' ∧ (v'.ownBlock = v.ownBlock ∨ v'.ownBlock = some w.heap.size) := by
 obtain ⟨i0, hi, hz0, hz1, hz2⟩ := info_parts infoItem
 obtain ⟨v', w', h1, h2, h3, h4⟩ := run_append_win (P := Tryz.prog) w base 69 69 ty 152 i0 _ 3 40 Tryz.underlying69 hi hz0 hz1 hz2 rfl v l.length cs hw
  x l'.length news (hsrc.toSrc Tryz.underlying69 hr'.length (hr'.all fun c x hc => hc.one)) (by simp [maxLen]; omega) (by omega) hb
 exact ⟨v', w', h1, by rw [List.length_append]; exact h2, h3, h4⟩
theorem items_of_win {w : World} {A A' : Nat → Prop} {base n : Nat} {v : Value} {cs : List Value} {l : List It} (h : Win w base 3 v n cs) (hn : n = l.length) (hr : RowOf 3 (ItemEn w A) cs l) (hA : ∀ k, A k → A' k) (hB : ∀ k, base ≤ k → k < w.heap.size → A' k) : SlV A' (ItemAt w A') 3 v l :=
 SlV.mono (SlV.of_win (At := ItemAt w A') h hn hr fun b o c x hc hl hcc => hc.at hA b o c x hl hcc) (fun k hk => hB k hk.1 hk.2) fun _ _ _ _ h => h
theorem rtake_none {A : Nat → Prop} (w : World) (v : Value) (m l : Nat) (h : RefV w A v ⟨m, l, []⟩) :
 Calls Tryz.prog 141 #[v] w fun e w' => e = .returned (.tuple #[v, .agg #[.bool false, .int .i64 0, .slice none 0 0], .bool false]) ∧ Ext w w' := by
 obtain ⟨sv, rfl, hs⟩ := h; obtain ⟨a, c, rfl, -⟩ := hs.itAt; simp only [List.length_nil]; clear hs; go_enter Tryz.func141, Tryz.ntmps141
 go_wp2_with fail; refine bodyPost_ret (v := .tuple #[.agg #[.int .i64 (m : Int), .slice a 0 c, .int .i64 (l : Int)], .agg #[.bool false, .int .i64 0, .slice none 0 0], .bool false]) (by simp [results, Tryz.results141, go_sem]) rfl ⟨rfl, ?_⟩; repeat (first | exact Keeps.refl _ _ | refine Keeps.alloc ?_ _ | refine Keeps.setNew ?_ _ _ (by simp; done))
theorem rtake_some {A : Nat → Prop} (w : World) (v : Value) (m l : Nat) (x : It) (r : List It) (h : RefV w A v ⟨m, l, x :: r⟩) (hl : r.length ≤ 1000) (hA : ∀ k, A k → k < w.heap.size) :
 Calls Tryz.prog 141 #[v] w fun e w' =>
  ∃ v' vx, e = .returned (.tuple #[v', vx, .bool true]) ∧ RefV w' (fun k => A k ∨ (w.heap.size ≤ k ∧ k < w'.heap.size)) v' ⟨m, l, r⟩ ∧ ItemV w' A vx x ∧ Ext w w' := by
 obtain ⟨sv, rfl, hs⟩ := h; have HS := Hd hs; obtain ⟨a, c, rfl, hat⟩ := hs.itAt; obtain ⟨b, o, rfl, hc, hAb, i1, i2, bv, i3, i4⟩ := hat 0 (by simp); simp only [List.length_cons] at hc; dsimp only [List.getElem_cons_zero] at i1 i2 i3 i4; have hbl := hA b hAb; have HA := Hd hA; have HI := Hd i4; obtain ⟨a4, c4, rfl⟩ := i4.len; have hz : (((r.length : Int) + 1) == 0) = false := by rw [beq_eq_false_iff_ne]; omega
 clear hs hat hA i4; simp only [List.length_cons]; go_enter Tryz.func141, Tryz.ntmps141
 go_wp2_with fail; have by0 := (((Box.new w 71 [.int .i64 (m : Int), .slice (some ⟨b, o, none⟩) (r.length + 1) c, .int .i64 (l : Int)]).alloc (Obj.cells #[.int .i64 0, .slice none 0 0, .int .i64 0] 71)).alloc (Obj.cells #[.bool false, .int .i64 0, .slice none 0 0] 152)); have by1 := ((Box.new (w.alloc (Obj.cells #[.int .i64 (m : Int), .slice (some ⟨b, o, none⟩) (r.length + 1) c, .int .i64 (l : Int)] 71)) 71 [.int .i64 0, .slice none 0 0, .int .i64 0]).alloc (Obj.cells #[.bool false, .int .i64 0, .slice none 0 0] 152)); have by2 := (Box.new ((w.alloc (Obj.cells #[.int .i64 (m : Int), .slice (some ⟨b, o, none⟩) (r.length + 1) c, .int .i64 (l : Int)] 71)).alloc (Obj.cells #[.int .i64 0, .slice none 0 0, .int .i64 0] 71)) 152 [.bool false, .int .i64 0, .slice none 0 0]); have ey : Ext w (((w.alloc (Obj.cells #[.int .i64 (m : Int), .slice (some ⟨b, o, none⟩) (r.length + 1) c, .int .i64 (l : Int)] 71)).alloc (Obj.cells #[.int .i64 0, .slice none 0 0, .int .i64 0] 71)).alloc (Obj.cells #[.bool false, .int .i64 0, .slice none 0 0] 152)) := ((((Keeps.refl NoB w).alloc _).alloc _).alloc _); have sy : (((w.alloc (Obj.cells #[.int .i64 (m : Int), .slice (some ⟨b, o, none⟩) (r.length + 1) c, .int .i64 (l : Int)] 71)).alloc (Obj.cells #[.int .i64 0, .slice none 0 0, .int .i64 0] 71)).alloc (Obj.cells #[.bool false, .int .i64 0, .slice none 0 0] 152)).heap.size = w.heap.size + 3 := by simp
 simp only [World.size_alloc] at by1 by2; generalize (((w.alloc (Obj.cells #[.int .i64 (m : Int), .slice (some ⟨b, o, none⟩) (r.length + 1) c, .int .i64 (l : Int)] 71)).alloc (Obj.cells #[.int .i64 0, .slice none 0 0, .int .i64 0] 71)).alloc (Obj.cells #[.bool false, .int .i64 0, .slice none 0 0] 152)) = w0 at by0 by1 by2 ey sy ⊢
 have Sy := Hd sy; clear sy; obtain ⟨c0, z0⟩ := by0.reads; obtain ⟨c1, z1⟩ := by1.reads; obtain ⟨c2, z2⟩ := by2.reads; have l0 := by0.lt; have l1 := by1.lt; have l2 := by2.lt; have j1 := Ext.cell ey i1; have j2 := Ext.cell ey i2; have j3 := Ext.cell ey i3; have hb0 : b < w0.heap.size := by omega
 have HE := Hd ey; clear i1 i2 i3; simp only [Nat.zero_mul, Nat.add_zero] at j1 j2 j3; have hbn : ¬ (b = w.heap.size + 1) := by omega
 have h1n : (1 : Int) ≤ (r.length : Int) + 1 := by omega
 have hsl := HS.out.drop 1 (by simp); simp only [List.length_cons, Nat.add_sub_cancel, List.drop_succ_cons, List.drop_zero, Nat.one_mul] at hsl; obtain ⟨sp, hsp⟩ : ∃ sp : Option Addr, (if c = 1 then some (⟨b, o, none⟩ : Addr) else some ⟨b, o + 3, none⟩) = sp := ⟨_, rfl⟩; rw [hsp] at hsl; have HT := Hd hsl; clear hsl; have hE0 : Keeps (OneB (w.heap.size + 1)) w0 w0.drew := (Keeps.refl _ _).drew; refine rgK (OneB (w.heap.size + 1)) [(0, 0), (1, 1), (0, 3), (1, 4), (0, 5), (0, 7), (1, 8), (0, 10), (1, 11), (0, 12), (1, 13), (2, 2), (2, 6), (0, 9), (2, 14)] [1, 4, 8, 11, 13] [2, 6, 14, 15, 16] [15, 16] ?_; simp only [planL, nL]; iterate 11 (first | (refine pR (by rfl) (fun W => by go_simp <;> with_reducible rfl) ?_; simp only [nP]) | (refine pK (by rfl) (fun W => by go_simp <;> with_reducible rfl) ?_; simp only [nP]))
 refine plan_does rfl (fun K hK => ?_); go_wp2_with fail; refine ⟨ClsK.of (by repeat (first | assumption | exact Keeps.refl _ _ | refine Keeps.alloc ?_ _ | refine Keeps.setOne ?_ _ _ | refine Keeps.setCell ?_ _ _ (.inl (by first | rfl | exact .inl rfl | exact .inr rfl | omega)) | refine Keeps.drew ?_)), ?_⟩; try simp only [nP]
 refine plan_does rfl (fun K hK => ?_); have hk0 : Ext w0 ((w0.alloc (Obj.cells #[] 152)).drew) := ((Keeps.refl _ _).alloc _).drew; obtain ⟨cs, hrow, hsrc⟩ := items_row ((HT.out.itExt HE.out).itExt hk0); obtain ⟨v1, w1, hr1, hwin1, hk1, ho1⟩ := append_items (A := A) _ w0.heap.size _ [] [] 69 (Win.empty (Nat.le_refl _) (by simp)) _ cs r hsrc hrow (by simp; omega) (by simp); have hK1 : Keeps (OneB (w.heap.size + 1)) w0 w1 := (Ext.keeps hk0).then hk1 (fun i hi h2 => by have := own_eq h2; omega); obtain ⟨a1, d1, rfl⟩ := hwin1.len; have hE1 : Ext w0 w1 := hk0.then hk1 (fun i hi h2 => by have := own_eq h2; omega); have HW1 := Hd hwin1; have HR1 := Hd (hrow.mono fun c x h => h.keeps hk1 (fun k hk h2 => by have := HA.out k hk; have := own_eq h2; omega)); obtain ⟨c11, z11⟩ := (by1.ext hE1).reads; obtain ⟨c12, z12⟩ := (by2.ext hE1).reads; have l11 := (by1.ext hE1).lt; have l12 := (by2.ext hE1).lt; refine oper_append_ran _ _ hr1 rfl rfl rfl ?_; clear hrow hsrc hr1 hk1 ho1 hk0 hwin1; refine hK _ _ ⟨ClsK.of (by assumption), ?_⟩; clear hK K; try simp only [nP]
 refine pR rfl (fun W => by go_simp <;> with_reducible rfl) ?_; simp only [nP]; refine plan_does rfl (fun K hK => ?_); go_wp2_with fail; refine ⟨ClsK.of (by repeat (first | assumption | exact Keeps.refl _ _ | refine Keeps.alloc ?_ _ | refine Keeps.setOne ?_ _ _ | refine Keeps.setCell ?_ _ _ (.inl (by first | rfl | exact .inl rfl | exact .inr rfl | omega)) | refine Keeps.drew ?_)), ?_⟩; try simp only [nP]
 refine plan_nil ?_; simp only [tailL, List.filterMap_cons, List.filterMap_nil, nL]; change wpList _ _ _ (_ :: _ :: []) _ _; go_wp2_with fail; have b1 := (((((((by1.ext hE1).set 0 (.int .i64 (m : Int))).set 1 (.slice a1 r.length d1)).set 2 (.int .i64 (l : Int))).other ⟨w.heap.size + 1 + 1, 0, none⟩ (.bool x.side) (by simp)).other ⟨w.heap.size + 1 + 1, 1, none⟩ (.int .i64 x.key) (by simp)).other ⟨w.heap.size + 1 + 1, 2, none⟩ (.slice a4 x.bytes.length c4) (by simp)); have b2 := (((((((by2.ext hE1).other ⟨w.heap.size + 1, 0, none⟩ (.int .i64 (m : Int)) (by simp)).other ⟨w.heap.size + 1, 1, none⟩ (.slice a1 r.length d1) (by simp)).other ⟨w.heap.size + 1, 2, none⟩ (.int .i64 (l : Int)) (by simp)).set 0 (.bool x.side)).set 1 (.int .i64 x.key)).set 2 (.slice a4 x.bytes.length c4)); dsimp only [List.set_cons_zero, List.set_cons_succ] at b1 b2; have r1 := b1.reads.1; have r2 := b2.reads.1
 have hS : Keeps (fun k => k = w.heap.size + 1 ∨ k = w.heap.size + 1 + 1) w1 ((((((w1.setCell ⟨w.heap.size + 1, 0, none⟩ (.int .i64 (m : Int))).setCell ⟨w.heap.size + 1, 1, none⟩ (.slice a1 r.length d1)).setCell ⟨w.heap.size + 1, 2, none⟩ (.int .i64 (l : Int))).setCell ⟨w.heap.size + 1 + 1, 0, none⟩ (.bool x.side)).setCell ⟨w.heap.size + 1 + 1, 1, none⟩ (.int .i64 x.key)).setCell ⟨w.heap.size + 1 + 1, 2, none⟩ (.slice a4 x.bytes.length c4)) :=
  ((((((Keeps.refl _ w1).setCell _ _ (.inl (.inl rfl))).setCell _ _ (.inl (.inl rfl))).setCell _ _ (.inl (.inl rfl))).setCell _ _ (.inl (.inr rfl))).setCell _ _ (.inl (.inr rfl))).setCell _ _ (.inl (.inr rfl))
 clear c0 c1 c2 c11 c12 z0 z1 z2 z11 z12 j1 j2 j3; refine bodyPost_ret (v := .tuple #[.agg #[.int .i64 (m : Int), .slice a1 r.length d1, .int .i64 (l : Int)], .agg #[.bool x.side, .int .i64 x.key, .slice a4 x.bytes.length c4], .bool true]) (by simp [results, Tryz.results141, go_sem, r1, r2]) rfl ⟨_, _, rfl, ?_, ?_, ?_⟩
 · have hw1 := HW1.out
   simp only [List.nil_append] at hw1; have h1 := items_of_win (A' := fun k => A k ∨ (w0.heap.size ≤ k ∧ k < w1.heap.size)) hw1 rfl HR1.out (fun _ h => .inl h) (fun k h h' => .inr ⟨h, h'⟩)
   have h2 := h1.itKeeps hS (fun k hk h2 => by
    rcases hk with hk | hk
    · have := HA.out k hk; omega
    · omega)
   refine ⟨_, rfl, h2.itMono fun k hk => ?_⟩; rcases hk with hk | hk
   · exact .inl hk
   · have := hS.size; have := HE.out.size; exact .inr ⟨by omega, by omega⟩
 · refine ⟨_, rfl, ?_⟩
   exact (((HI.out.ext HE.out).ext hE1).keeps hS fun k hk h2 => by have := HA.out k hk; omega)
 · exact (HE.out.ext hE1).then hS fun i hi h2 => by omega
def RPutPost (w : World) (A : Nat → Prop) (R : AR) (x : It) (e : Ending) (w' : World) : Prop :=
 ∃ v', e = .returned (.tuple #[v', .int .i64 ((R.put x).2.1 : Nat), .int .i64 ((R.put x).2.2 : Nat)]) ∧ RefV w' (fun k => A k ∨ (w.heap.size ≤ k ∧ k < w'.heap.size)) v' (R.put x).1 ∧ Ext w w'
theorem RPutPost.mk {w w' : World} {A : Nat → Prop} {R R' : AR} {x : It} {v' : Value} {n m : Nat} (hR : R.put x = (R', n, m)) (h : RefV w' (fun k => A k ∨ (w.heap.size ≤ k ∧ k < w'.heap.size)) v' R') (hk : Ext w w') :
 RPutPost w A R x (.returned (.tuple #[v', .int .i64 (n : Int), .int .i64 (m : Int)])) w' := by
 unfold RPutPost; rw [hR]; exact ⟨_, rfl, h, hk⟩
theorem rput_early {A B : Nat → Prop} (w : World) (v vx : Value) (R : AR) (x : It) (h : RefV w A v R) (hv : ItemV w B vx x) (hx : x.bytes.length ≤ 1000000) (he : (x.side = false ∧ x.key ≠ 0) ∨ (¬ (x.side = false ∧ x.key ≠ 0) ∧ 1024 < x.bytes.length)) :
 Calls Tryz.prog 86 #[v, vx] w (RPutPost w A R x) := by
 have HR := Hd h; obtain ⟨sv, rfl, hs⟩ := h; obtain ⟨a, c, rfl, -⟩ := hs.itAt; obtain ⟨bx, rfl, hb⟩ := hv; obtain ⟨a2, c2, rfl⟩ := hb.len; clear hs hb; obtain ⟨xs, xk, xb⟩ := x; dsimp only at he hx ⊢; rcases he with ⟨rfl, hk⟩ | ⟨hn, hlong⟩
 · have hkb : (xk == 0) = false := beq_eq_false_iff_ne.2 hk
   have hput : R.put ⟨false, xk, xb⟩ = (R, 0, 2) := by unfold AR.put; rw [if_pos (by simp [hk])]
   have HP := Hd hput; clear hput; go_enter Tryz.func86, Tryz.ntmps86
   go_wp2_with fail; refine bodyPost_ret (v := .tuple #[.agg #[.int .i64 (R.most : Int), .slice a R.items.length c, .int .i64 (R.lost : Int)], .int .i64 0, .int .i64 2]) (by simp [results, Tryz.results86, go_sem]) rfl ?_; exact RPutPost.mk (n := 0) (m := 2) HP.out ((HR.out.ext ((((Keeps.refl _ _).alloc _).alloc _).alloc _)).mono fun k hk => .inl hk) ((((Keeps.refl _ _).alloc _).alloc _).alloc _)
 · have hput : R.put ⟨xs, xk, xb⟩ = (R, 0, 3) := by
    unfold AR.put; rw [if_neg (by cases xs <;> simp at hn ⊢; exact hn), if_pos hlong]
   have HP := Hd hput; clear hput; have hkb : xs = false → (xk == 0) = true := by intro h; subst h; simp at hn; simp [hn]
   cases xs with
   | true =>
     clear hkb hn; go_enter Tryz.func86, Tryz.ntmps86
     go_wp2_with fail; refine bodyPost_ret (v := .tuple #[.agg #[.int .i64 (R.most : Int), .slice a R.items.length c, .int .i64 (R.lost : Int)], .int .i64 0, .int .i64 3]) (by simp [results, Tryz.results86, go_sem]) rfl ?_; exact RPutPost.mk (n := 0) (m := 3) HP.out ((HR.out.ext ((((Keeps.refl _ _).alloc _).alloc _).alloc _)).mono fun k hk => .inl hk) ((((Keeps.refl _ _).alloc _).alloc _).alloc _)
   | false =>
     have hk0 : xk = 0 := by simpa using hn
     subst hk0; clear hkb hn; go_enter Tryz.func86, Tryz.ntmps86
     go_wp2_with fail; refine bodyPost_ret (v := .tuple #[.agg #[.int .i64 (R.most : Int), .slice a R.items.length c, .int .i64 (R.lost : Int)], .int .i64 0, .int .i64 3]) (by simp [results, Tryz.results86, go_sem]) rfl ?_; exact RPutPost.mk (n := 0) (m := 3) HP.out ((HR.out.ext ((((Keeps.refl _ _).alloc _).alloc _).alloc _)).mono fun k hk => .inl hk) ((((Keeps.refl _ _).alloc _).alloc _).alloc _)
theorem pside_p33 (x : It) (h : x.side = true) : p33 x = pside false x.key := by
 funext y; unfold p33 pside; rw [h]; simp
theorem pside_p34 : p34 = pside true 0 := by
 funext y; unfold p34 pside; simp
theorem p33_main (x : It) (l : List It) (h : x.side = false) : l.findIdx? (p33 x) = none := by
 rw [List.findIdx?_eq_none_iff]; intro y _; unfold p33; rw [h]; rfl
end Go.Proofs.YtoadjbgpfihoiaaGreatDoor
