/- The walk of the reference's Put: a new message. -/
import Derived.Test.YtdiogipdcpiffaaNRefF
set_option linter.unusedVariables false
set_option maxHeartbeats 400000
set_option maxRecDepth 10000
namespace Go.Proofs.Ytdiogipdcpiffaa
open Go.RowKit

theorem Bytes.own {w : World} {A A' : Nat → Prop} {v : Value} {l : List UInt8} (h : Bytes w A v l) (hA : ∀ k, A k → Own v k → A' k) : Bytes w A' v l := by
  rcases h with ⟨a', h1, h2⟩ | ⟨b', o', c', h1, h2, h3, h4⟩
  · exact .inl ⟨a', h1, h2⟩
  · exact .inr ⟨b', o', c', h1, h2, hA _ h3 (by subst h1; rfl), h4⟩
set_option maxHeartbeats 8000000 in
theorem rput_ok {A AB : Nat → Prop} (w : World) (v bv : Value) (N : NA) (f t : Int) (bl : List UInt8) (h : RefV w A v N) (hb : Bytes w AB bv bl) (he64 : N.ends ≤ 64) (hl : N.l.length ≤ 4096) (hmm : N.most ≤ 4096) (hdl : N.downs.length ≤ 10000) (hcm : N.came ≤ 1000000) (hA : ∀ k, A k → k < w.heap.size) (hk : N.putErr f t bl.length = 0) :
    Calls Try.prog 47 #[v, .int .i64 f, .int .i64 t, bv] w fun e w' => ∃ v', e = .returned (.tuple #[v', .int .i64 (N.came : Int), .int .i64 0]) ∧ RefV w' (Gr A w w') v' (N.put f t bl) ∧ Ext w w' := by
  unfold NA.putErr at hk
  have hft : (N.endB f && N.endB t) = true := by cases h1 : (N.endB f && N.endB t) with | false => rw [if_pos h1] at hk; cases hk | true => rfl
  rw [if_neg (by rw [hft]; decide)] at hk
  have h8 : ¬ 8192 < bl.length := fun h => by rw [if_pos h] at hk; cases hk
  rw [if_neg h8] at hk
  have hd : (f, t) ∉ N.downs := fun h => by rw [if_pos h] at hk; cases hk
  rw [if_neg hd] at hk
  have hm : ¬ N.most ≤ N.l.length := fun h => by rw [if_pos h] at hk; cases hk
  clear hk
  rw [Bool.and_eq_true] at hft
  have HF := Lib.hid hft.1
  have HT := Lib.hid hft.2
  have HL := Lib.hid h8
  have hm' : ¬ ((N.most : Int) ≤ (N.l.length : Int)) := by omega
  have hbl : bl.length ≤ 8192 := by omega
  have hcw1 : IntKind.i64.wrap ((N.came : Int) + 1) = (N.came : Int) + 1 := IntWalk.i64_in _ (by omega)
  have hcw2 : IntKind.i64.wrap (N.came : Int) = (N.came : Int) := IntWalk.i64_in _ (by omega)
  clear h8 hft
  obtain ⟨a, c, a', c', rfl, hp, hq⟩ := h.args
  obtain ⟨ba, bc, rfl⟩ := hb.len
  have HV := Lib.hid h
  have HP := Lib.hid hp
  have HQ := Lib.hid hq
  have HA := Lib.hid hA
  have HB := Lib.hid hb
  clear h hp hq hb hA
  go_enter Try.func47, Try.ntmps47
  go_wp2_with fail
  have bx0 := ((Box.new w 41 [.int .i64 (N.ends : Int), .int .i64 (N.most : Int), .int .i64 (N.came : Int), .slice a N.l.length c, .slice a' N.downs.length c']).alloc (Obj.cells #[.int .i64 0, .int .i64 0, .int .i64 0, .slice none 0 0, .slice none 0 0] 41))
  have bx1 := (Box.new (w.alloc (Obj.cells #[.int .i64 (N.ends : Int), .int .i64 (N.most : Int), .int .i64 (N.came : Int), .slice a N.l.length c, .slice a' N.downs.length c'] 41)) 41 [.int .i64 0, .int .i64 0, .int .i64 0, .slice none 0 0, .slice none 0 0])
  have ex : Ext w ((w.alloc (Obj.cells #[.int .i64 (N.ends : Int), .int .i64 (N.most : Int), .int .i64 (N.came : Int), .slice a N.l.length c, .slice a' N.downs.length c'] 41)).alloc (Obj.cells #[.int .i64 0, .int .i64 0, .int .i64 0, .slice none 0 0, .slice none 0 0] 41)) := (((Keeps.refl NoB w).alloc _).alloc _)
  have sx : ((w.alloc (Obj.cells #[.int .i64 (N.ends : Int), .int .i64 (N.most : Int), .int .i64 (N.came : Int), .slice a N.l.length c, .slice a' N.downs.length c'] 41)).alloc (Obj.cells #[.int .i64 0, .int .i64 0, .int .i64 0, .slice none 0 0, .slice none 0 0] 41)).heap.size = w.heap.size + 2 := by simp
  simp only [World.size_alloc] at bx1
  generalize ((w.alloc (Obj.cells #[.int .i64 (N.ends : Int), .int .i64 (N.most : Int), .int .i64 (N.came : Int), .slice a N.l.length c, .slice a' N.downs.length c'] 41)).alloc (Obj.cells #[.int .i64 0, .int .i64 0, .int .i64 0, .slice none 0 0, .slice none 0 0] 41)) = w0 at bx0 bx1 ex sx ⊢
  have Sx := Lib.hid sx
  clear sx
  have B0 := Lib.hid bx0
  have B1 := Lib.hid bx1
  have HE := Lib.hid ex
  have hs0 := bx1.lt
  clear ex bx0 bx1
  refine (rend_any w0 N _ _ f ⟨_, _, _, _, _, _, rfl, rfl⟩ he64).mono ?_
  rintro e w1 ⟨rfl, hE⟩
  have h01 := hE.size
  replace HE := Lib.hid (HE.out.ext hE)
  replace B0 := Lib.hid (B0.out.ext hE)
  replace B1 := Lib.hid (B1.out.ext hE)
  clear hE
  rw [HF.out]
  obtain ⟨cB0, zB0⟩ := B0.out.reads
  have lB0 := B0.out.lt
  obtain ⟨cB1, zB1⟩ := B1.out.reads
  have lB1 := B1.out.lt
  go_wp2_with fail
  refine (rend_any w1 N _ _ t ⟨_, _, _, _, _, _, rfl, rfl⟩ he64).mono ?_
  rintro e w2 ⟨rfl, hE⟩
  have h12 := hE.size
  replace HE := Lib.hid (HE.out.ext hE)
  replace B0 := Lib.hid (B0.out.ext hE)
  replace B1 := Lib.hid (B1.out.ext hE)
  clear hE
  rw [HT.out]
  have hlt8 : ¬ (8192 < (bl.length : Int)) := by have := HL.out; omega
  obtain ⟨cB0, zB0⟩ := B0.out.reads
  have lB0 := B0.out.lt
  obtain ⟨cB1, zB1⟩ := B1.out.reads
  have lB1 := B1.out.lt
  go_wp2_with fail
  clear cB0 zB0 lB0 cB1 zB1 lB1
  refine (risdown_any w2 _ N f t (HV.out.ext HE.out) hdl (fun k hk => Nat.lt_of_lt_of_le (HA.out k hk) HE.out.size)).mono ?_
  rintro e w3 ⟨rfl, hE⟩
  have h23 := hE.size
  replace HE := Lib.hid (HE.out.ext hE)
  replace B0 := Lib.hid (B0.out.ext hE)
  replace B1 := Lib.hid (B1.out.ext hE)
  clear hE
  rw [decide_eq_false hd]
  have hsw := HE.out.size
  obtain ⟨cB0, zB0⟩ := B0.out.reads
  have lB0 := B0.out.lt
  obtain ⟨cB1, zB1⟩ := B1.out.reads
  have lB1 := B1.out.lt
  go_wp2_with fail
  have hE0 : Keeps NoB w3 w3.drew := (Keeps.refl _ _).drew
  refine wp_region_forks [2, 5] [0, 3, 8, 10, 12, 13, 14, 15] (ClsE w3) (by kernel_rfl) ?_
  refine any_seg (L := #[false, true, true, false, true, true, true, true, false, true, false, false, false, false, false, false]) [(0, 1), (1, 2), (0, 4), (1, 5), (0, 6), (0, 7), (0, 9)] 9 (by kernel_rfl) (fun _ _ _ d _ h => by cases d <;> exact h) (by kernel_rfl) (by kernel_rfl) rfl rfl (ClsE.of (by repeat (first | assumption | exact Keeps.refl _ _ | refine Keeps.alloc ?_ _ | refine Keeps.setOne ?_ _ _ | refine Keeps.setCell ?_ _ _ (.inl (by first | rfl | exact .inl rfl | exact .inr rfl | omega)) | refine Keeps.drew ?_))) ?_; simp only [planL, List.getElem?_toArray, List.getElem?_cons_succ, List.getElem?_cons_zero]
  refine plan_pure rfl (fun K hK => quiet_run (v := ?_) (fun W _ => ?_) (hK _ ?_)); rotate_left; (go_simp <;> with_reducible rfl); clear hK K; simp only [Act.put, List.setIfInBounds_toArray, List.set_cons_zero, List.set_cons_succ]
  refine plan_load rfl (fun K hK => quiet_runE (v := ?_) (fun W => ?_) (hK _ ?_)); rotate_left; (go_simp <;> with_reducible rfl); clear hK K; simp only [Act.put, List.setIfInBounds_toArray, List.set_cons_zero, List.set_cons_succ]
  refine plan_pure rfl (fun K hK => quiet_run (v := ?_) (fun W _ => ?_) (hK _ ?_)); rotate_left; (go_simp <;> with_reducible rfl); clear hK K; simp only [Act.put, List.setIfInBounds_toArray, List.set_cons_zero, List.set_cons_succ]
  refine plan_load rfl (fun K hK => quiet_runE (v := ?_) (fun W => ?_) (hK _ ?_)); rotate_left; (go_simp <;> with_reducible rfl); clear hK K; simp only [Act.put, List.setIfInBounds_toArray, List.set_cons_zero, List.set_cons_succ]
  refine plan_pure rfl (fun K hK => quiet_move' _ rfl (hK _ ?_)); clear hK K; simp only [Act.put, Act.eval, Array.getD_eq_getD_getElem?, List.getElem?_toArray, List.getElem?_cons_zero, List.getElem?_cons_succ, Option.getD_some, List.setIfInBounds_toArray, List.set_cons_zero, List.set_cons_succ]
  refine plan_pure rfl (fun K hK => quiet_move' _ rfl (hK _ ?_)); clear hK K; simp only [Act.put, Act.eval, Array.getD_eq_getD_getElem?, List.getElem?_toArray, List.getElem?_cons_zero, List.getElem?_cons_succ, Option.getD_some, List.setIfInBounds_toArray, List.set_cons_zero, List.set_cons_succ]
  refine plan_pure rfl (fun K hK => quiet_move' _ rfl (hK _ ?_)); clear hK K; simp only [Act.put, Act.eval, Array.getD_eq_getD_getElem?, List.getElem?_toArray, List.getElem?_cons_zero, List.getElem?_cons_succ, Option.getD_some, List.setIfInBounds_toArray, List.set_cons_zero, List.set_cons_succ]
  refine plan_nil ?_
  refine any_fork 0 8 (by kernel_rfl) (by kernel_rfl) rfl rfl rfl rfl (fun K hK => ?_) (fun K hK => ?_)
  · skip
    go_wp2_with fail
    refine ⟨ClsE.of (by repeat (first | assumption | exact Keeps.refl _ _ | refine Keeps.alloc ?_ _ | refine Keeps.setOne ?_ _ _ | refine Keeps.setCell ?_ _ _ (.inl (by first | rfl | exact .inl rfl | exact .inr rfl | omega)) | refine Keeps.drew ?_)), ?_⟩; try simp only [Act.put, List.setIfInBounds_toArray, List.set_cons_zero, List.set_cons_succ]
    refine any_seg (L := #[true, true, true, false, true, true, true, true, false, true, false, false, false, false, false, false]) [] 8 (by kernel_rfl) (fun _ _ _ d _ h => by cases d <;> exact h) (by kernel_rfl) (by kernel_rfl) rfl rfl (ClsE.of (by repeat (first | assumption | exact Keeps.refl _ _ | refine Keeps.alloc ?_ _ | refine Keeps.setOne ?_ _ _ | refine Keeps.setCell ?_ _ _ (.inl (by first | rfl | exact .inl rfl | exact .inr rfl | omega)) | refine Keeps.drew ?_))) ?_; simp only [planL, List.getElem?_toArray, List.getElem?_cons_succ, List.getElem?_cons_zero]
    refine plan_nil ?_
    refine any_fork 3 8 (by kernel_rfl) (by kernel_rfl) rfl rfl rfl rfl (fun K hK => ?_) (fun K hK => ?_)
    · skip
      have hk0 : Ext w3 ((w3.alloc (Obj.cells #[] 50)).drew) := (by repeat (first | exact Keeps.refl _ _ | refine Keeps.alloc ?_ _ | refine Keeps.drew ?_))
      obtain ⟨cs1, hrow1, hsrc1⟩ := ((HP.out.ext HE.out).ext hk0).row
      obtain ⟨v1, w4, hr1, hwin1, hk1, ho1⟩ := append_pars (A := A) ((w3.alloc (Obj.cells #[] 50)).drew) w3.heap.size (.slice (some ⟨w3.heap.size, 0, none⟩) 0 0) [] [] 38 (Win.empty (by omega) (by simp <;> omega)) _ cs1 N.l hsrc1 hrow1 (by simp; omega) (by simp <;> omega)
      have hE4 : Ext w3 w4 := hk0.then hk1 (fun i hi h2 => by have := own_eq h2; omega)
      simp only [List.nil_append] at hwin1
      obtain ⟨a1, d1, rfl⟩ := hwin1.len
      have hs4 := hE4.size
      have hs45 := hk1.size
      simp only [World.size_alloc, World.size_drew] at hs45
      have HW1 := Lib.hid hwin1
      have HO1 := Lib.hid ho1
      have HR1 := Lib.hid (hrow1.mono fun c x h => h.keeps hk1 (fun k hk h2 => by have := HA.out k hk; have := own_eq h2; have := HE.out.size; omega))
      refine oper_append_ran _ _ hr1 rfl rfl rfl ?_
      clear hrow1 hsrc1 hr1 hk0 hwin1 ho1
      refine hK _ _ ⟨ClsE.of (by assumption), ?_⟩; clear hK K; try simp only [Act.put, List.setIfInBounds_toArray, List.set_cons_zero, List.set_cons_succ]
      refine any_end [(2, 8), (2, 10), (0, 11)] [12, 13, 14, 15] (by kernel_rfl) (fun _ _ _ d _ h => by cases d <;> exact h) (by kernel_rfl) (by kernel_rfl) rfl rfl (ClsE.of (by repeat (first | assumption | exact Keeps.refl _ _ | refine Keeps.alloc ?_ _ | refine Keeps.setOne ?_ _ _ | refine Keeps.setCell ?_ _ _ (.inl (by first | rfl | exact .inl rfl | exact .inr rfl | omega)) | refine Keeps.drew ?_))) ?_; simp only [planL, List.getElem?_toArray, List.getElem?_cons_succ, List.getElem?_cons_zero]
      refine plan_does rfl (fun K hK => ?_)
      go_wp2_with fail
      refine ⟨ClsE.of (by repeat (first | assumption | exact Keeps.refl _ _ | refine Keeps.alloc ?_ _ | refine Keeps.setOne ?_ _ _ | refine Keeps.setCell ?_ _ _ (.inl (by first | rfl | exact .inl rfl | exact .inr rfl | omega)) | refine Keeps.drew ?_)), ?_⟩; try simp only [Act.put, List.setIfInBounds_toArray, List.set_cons_zero, List.set_cons_succ]
      refine plan_does rfl (fun K hK => ?_)
      have hk5 : Ext w4 (w4.alloc (Obj.cells #[] 5)) := (by repeat (first | exact Keeps.refl _ _ | refine Keeps.alloc ?_ _ | refine Keeps.drew ?_))
      have hE5' : Ext w3 (w4.alloc (Obj.cells #[] 5)) := hE4.ext hk5
      obtain ⟨v2, w5, hr2, hwin2, hk2, ho2⟩ := append_bytes (w4.alloc (Obj.cells #[] 5)) w3.heap.size (.slice (some ⟨w4.heap.size, 0, none⟩) 0 0) [] 30 (Win.empty (by omega) (by first | omega | (simp <;> omega))) _ bl ((HB.out.ext HE.out).ext hE5') (by simp; omega) (by have := hE5'.size; omega)
      have hE5 : Ext w3 w5 := hE5'.then hk2 (fun i hi h2 => by have := own_eq h2; omega)
      simp only [List.nil_append] at hwin2
      have HW5 := Lib.hid ((HW1.out.ext hk5).keeps hk2 (fun g hg h2 => by have := HW1.out.block g hg; have := own_eq h2; omega))
      have HR5 := Lib.hid (HR1.out.mono fun c x h => (h.keeps (Ext.keeps hk5) (fun _ _ h => h)).keeps hk2 (fun k hk h2 => by have := HA.out k hk; have := own_eq h2; have := HE.out.size; omega))
      obtain ⟨a2, d2, rfl⟩ := hwin2.len
      have HW2 := Lib.hid hwin2
      have HO2 := Lib.hid ho2
      refine oper_append_ran _ _ hr2 rfl rfl rfl ?_
      clear hr2 hwin2 ho2
      have HBY : Hid (Bytes w5 (fun k => w3.heap.size ≤ k ∧ k < w5.heap.size ∧ ¬ Own (.slice a1 N.l.length d1) k) (.slice a2 bl.length d2) bl) := Lib.hid ((Bytes.of_win HW2.out).own fun k hk ho => ⟨hk.1, hk.2, fun h9 => by
        have g1 := HO1.out
        have g2 := HO2.out
        unfold Own at ho h9
        rw [h9] at g1
        rw [ho] at g2
        have g3 := HW1.out.block k h9
        simp only [Value.ownBlock, Option.some.injEq, World.size_alloc, World.size_drew] at g1 g2 g3
        omega⟩)
      clear HW2 HO2 HO1
      refine hK _ _ ⟨ClsE.of (by assumption), ?_⟩; clear hK K; try simp only [Act.put, List.setIfInBounds_toArray, List.set_cons_zero, List.set_cons_succ]
      refine plan_pure rfl (fun K hK => quiet_run (v := ?_) (fun W _ => ?_) (hK _ ?_)); rotate_left; (go_simp <;> with_reducible rfl); clear hK K; simp only [Act.put, List.setIfInBounds_toArray, List.set_cons_zero, List.set_cons_succ]
      refine plan_nil ?_; simp only [tailL, List.filterMap_cons, List.filterMap_nil, List.getElem?_toArray, List.getElem?_cons_succ, List.getElem?_cons_zero]; change wpList _ _ _ (_ :: _ :: _ :: _ :: []) _ _
      go_wp2_with (at_builtin; refine standing ?_)
      clear cB0 zB0 lB0 cB1 zB1 lB1
      have HE5 := Lib.hid hE5
      have hs35 := hE5.size
      replace B0 := Lib.hid (B0.out.ext hE5)
      replace B1 := Lib.hid (B1.out.ext hE5)
      clear hE4 hE5 hE5' hk1 hk2 hk5
      have bz0 := (Box.new w5 50 [.int .i64 (N.came : Int), .int .i64 f, .int .i64 t, .slice a2 bl.length d2])
      have ez : Ext w5 (w5.alloc (Obj.cells #[.int .i64 (N.came : Int), .int .i64 f, .int .i64 t, .slice a2 bl.length d2] 50)) := ((Keeps.refl NoB w5).alloc _)
      have sz : (w5.alloc (Obj.cells #[.int .i64 (N.came : Int), .int .i64 f, .int .i64 t, .slice a2 bl.length d2] 50)).heap.size = w5.heap.size + 1 := by simp
      generalize (w5.alloc (Obj.cells #[.int .i64 (N.came : Int), .int .i64 f, .int .i64 t, .slice a2 bl.length d2] 50)) = w6 at bz0 ez sz ⊢
      have Sz := Lib.hid sz
      clear sz
      have h6 := ez.size
      have hbase : w3.heap.size ≤ w6.heap.size := by omega
      have HA3 : Hid (∀ k, A k → k < w3.heap.size) := Lib.hid (fun k hk => by have := HA.out k hk; have := HE.out.size; omega)
      obtain ⟨v3, w7, hr3, hwin3, hk3, ho3⟩ := append_pars (A := fun k => A k ∨ (w3.heap.size ≤ k ∧ k < w5.heap.size ∧ ¬ Own (.slice a1 N.l.length d1) k)) w6 w3.heap.size _ cs1 N.l 38 (HW5.out.ext ez) (.slice (some ⟨w5.heap.size, 0, none⟩) 1 1) [.int .i64 (N.came : Int), .int .i64 f, .int .i64 t, .slice a2 bl.length d2] [⟨N.came, f, t, bl⟩] (Box.src bz0 1 1) (RowOf.one ⟨_, rfl, (HBY.out.mono fun k hk => .inr hk).ext ez⟩ rfl) (by simp; omega) hbase
      obtain ⟨n3, hn3⟩ : ∃ n3, (N.l ++ [(⟨N.came, f, t, bl⟩ : Pc)]).length = n3 := ⟨_, rfl⟩
      rw [hn3] at hwin3
      obtain ⟨a3, d3, rfl⟩ := hwin3.len
      have hnew : ∀ k, A k ∨ (w3.heap.size ≤ k ∧ k < w5.heap.size ∧ ¬ Own (.slice a1 N.l.length d1) k) → ¬ Own (.slice a1 N.l.length d1) k := fun k hk h2 => by
        rcases hk with hk | hk
        · have := HW5.out.block k h2; have := HA3.out k hk; omega
        · exact hk.2.2 h2
      have HROW : Hid (RowOf 4 (ParEn w7 (fun k => A k ∨ (w3.heap.size ≤ k ∧ k < w5.heap.size ∧ ¬ Own (.slice a1 N.l.length d1) k))) (cs1 ++ [.int .i64 (N.came : Int), .int .i64 f, .int .i64 t, .slice a2 bl.length d2]) (N.l ++ [⟨N.came, f, t, bl⟩])) := Lib.hid (RowOf.append (HR5.out.mono fun c x h => ((h.mono fun k hk => .inl hk).keeps (Ext.keeps ez) (fun _ _ h => h)).keeps hk3 hnew) (RowOf.one ⟨_, rfl, ((HBY.out.mono fun k hk => .inr hk).ext ez).keeps hk3 hnew⟩ rfl))
      have hE7 : Ext w w7 := ((HE.out.ext HE5.out).ext ez).then hk3 (fun i hi h => by have := HW5.out.block i h; have := HE.out.size; omega)
      have HW7 := Lib.hid hwin3
      have HN3 := Lib.hid hn3
      have hs7 := hk3.size
      have HB0 := Lib.hid ((B0.out.ext ez).keeps hk3 (fun h => by have := HW5.out.block _ h; have := B0.out.lt; omega))
      have HB1 := Lib.hid ((B1.out.ext ez).keeps hk3 (fun h => by have := HW5.out.block _ h; have := B1.out.lt; omega))
      clear ez bz0 hwin3 hk3 ho3 hnew hn3 B0 B1 HBY HW5 HR5
      refine ⟨?_⟩
      refine wpList_append_ran rfl _ _ hr3 rfl rfl rfl ?_
      clear hr3
      obtain ⟨cHB0, zHB0⟩ := HB0.out.reads
      have lHB0 := HB0.out.lt
      obtain ⟨cHB1, zHB1⟩ := HB1.out.reads
      have lHB1 := HB1.out.lt
      go_wp2_with fail
      clear cHB0 zHB0 lHB0 cHB1 zHB1 lHB1
      have q1 := (HB0.out.set 3 (.slice a3 n3 d3)).set 2 (.int .i64 ((N.came : Int) + 1))
      dsimp only [List.set_cons_zero, List.set_cons_succ] at q1
      have hk8 : Keeps (OneB w.heap.size) w7 ((w7.setCell ⟨w.heap.size, 3, none⟩ (.slice a3 n3 d3)).setCell ⟨w.heap.size, 2, none⟩ (.int .i64 ((N.came : Int) + 1))) := ((Keeps.refl _ _).setOne _ _).setOne _ _
      generalize ((w7.setCell ⟨w.heap.size, 3, none⟩ (.slice a3 n3 d3)).setCell ⟨w.heap.size, 2, none⟩ (.int .i64 ((N.came : Int) + 1))) = w8 at q1 hk8 ⊢
      have C0 := Lib.hid q1
      have C1 := Lib.hid (HB1.out.keeps hk8 (by unfold OneB; omega))
      have hs8 := hk8.size
      clear q1 HB0 HB1
      obtain ⟨cC0, zC0⟩ := C0.out.reads
      have lC0 := C0.out.lt
      obtain ⟨cC1, zC1⟩ := C1.out.reads
      have lC1 := C1.out.lt
      have hE0 : Keeps (OneB (w.heap.size + 1)) w8 w8.drew := (Keeps.refl _ _).drew
      refine wp_region_plan [(3, 0), (0, 1), (1, 2), (0, 3), (2, 4), (0, 5), (0, 6)] [2] [4] [] (ClsK (OneB (w.heap.size + 1)) w8) (by kernel_rfl) (by kernel_rfl) (by kernel_rfl) rfl rfl (ClsK.of hE0) (fun _ _ _ d _ h => by cases d <;> exact h) ?_; simp only [planL, List.getElem?_toArray, List.getElem?_cons_succ, List.getElem?_cons_zero]
      refine plan_exact rfl (fun K hK => quiet_runX (v := ?_) ?_ (hK _ ?_)); rotate_left; (go_simp <;> with_reducible rfl); clear hK K; simp only [Act.put, List.setIfInBounds_toArray, List.set_cons_zero, List.set_cons_succ]
      refine plan_pure rfl (fun K hK => quiet_run (v := ?_) (fun W _ => ?_) (hK _ ?_)); rotate_left; (go_simp <;> with_reducible rfl); clear hK K; simp only [Act.put, List.setIfInBounds_toArray, List.set_cons_zero, List.set_cons_succ]
      refine plan_load rfl (fun K hK => quiet_runK (v := ?_) (fun W => ?_) (hK _ ?_)); rotate_left; (go_simp <;> with_reducible rfl); clear hK K; simp only [Act.put, List.setIfInBounds_toArray, List.set_cons_zero, List.set_cons_succ]
      refine plan_pure rfl (fun K hK => quiet_run (v := ?_) (fun W _ => ?_) (hK _ ?_)); rotate_left; (go_simp <;> with_reducible rfl); clear hK K; simp only [Act.put, List.setIfInBounds_toArray, List.set_cons_zero, List.set_cons_succ]
      refine plan_does rfl (fun K hK => ?_)
      go_wp2_with fail
      refine ⟨ClsK.of (by repeat (first | assumption | exact Keeps.refl _ _ | refine Keeps.alloc ?_ _ | refine Keeps.setOne ?_ _ _ | refine Keeps.setCell ?_ _ _ (.inl (by first | rfl | exact .inl rfl | exact .inr rfl | omega)) | refine Keeps.drew ?_)), ?_⟩; try simp only [Act.put]
      refine plan_pure rfl (fun K hK => quiet_assign' _ rfl (hK _ ?_)); clear hK K; simp only [Act.put, Act.eval, Array.getD_eq_getD_getElem?, List.getElem?_toArray, List.getElem?_cons_zero, List.getElem?_cons_succ, Option.getD_some, List.setIfInBounds_toArray, List.set_cons_zero, List.set_cons_succ]
      refine plan_pure rfl (fun K hK => quiet_assign' _ rfl (hK _ ?_)); clear hK K; simp only [Act.put, Act.eval, List.setIfInBounds_toArray, List.set_cons_zero, List.set_cons_succ]
      refine plan_nil ?_; simp only [tailL, List.filterMap_nil]
      go_wp2_with fail
      clear cC0 zC0 lC0 cC1 zC1 lC1
      have q1 := (((((C1.out.set 0 (.int .i64 (N.ends : Int))).set 1 (.int .i64 (N.most : Int))).set 2 (.int .i64 ((N.came : Int) + 1))).set 3 (.slice a3 n3 d3)).set 4 (.slice a' N.downs.length c'))
      dsimp only [List.set_cons_zero, List.set_cons_succ] at q1
      have hk9 : Keeps (OneB (w.heap.size + 1)) w8 (((((w8.setCell ⟨w.heap.size + 1, 0, none⟩ (.int .i64 (N.ends : Int))).setCell ⟨w.heap.size + 1, 1, none⟩ (.int .i64 (N.most : Int))).setCell ⟨w.heap.size + 1, 2, none⟩ (.int .i64 ((N.came : Int) + 1))).setCell ⟨w.heap.size + 1, 3, none⟩ (.slice a3 n3 d3)).setCell ⟨w.heap.size + 1, 4, none⟩ (.slice a' N.downs.length c')) :=
        (((((Keeps.refl _ _).setOne _ _).setOne _ _).setOne _ _).setOne _ _).setOne _ _
      have q2 := q1.reads.1
      generalize (((((w8.setCell ⟨w.heap.size + 1, 0, none⟩ (.int .i64 (N.ends : Int))).setCell ⟨w.heap.size + 1, 1, none⟩ (.int .i64 (N.most : Int))).setCell ⟨w.heap.size + 1, 2, none⟩ (.int .i64 ((N.came : Int) + 1))).setCell ⟨w.heap.size + 1, 3, none⟩ (.slice a3 n3 d3)).setCell ⟨w.heap.size + 1, 4, none⟩ (.slice a' N.downs.length c')) = w9 at q2 hk9 ⊢
      have hs9 := hk9.size
      have hlen : (N.put f t bl).l.length = n3 := HN3.out
      refine bodyPost_ret (v := .tuple #[.agg #[.int .i64 (N.ends : Int), .int .i64 (N.most : Int), .int .i64 ((N.came : Int) + 1), .slice a3 n3 d3, .slice a' N.downs.length c'], .int .i64 (N.came : Int), .int .i64 0]) (by simp [results, Try.results47, go_sem, q2]) rfl ⟨_, rfl, ⟨_, _, rfl, ?_, ?_⟩, ?_⟩
      · have h1 : ParsV w7 (fun k => A k ∨ (w3.heap.size ≤ k ∧ k < w7.heap.size)) (.slice a3 n3 d3) (N.put f t bl).l := ParsV.of_win HW7.out hlen.symm HROW.out (fun k hk => hk.imp id fun h => ⟨h.1, by omega⟩) (fun k h1 h2 => .inr ⟨h1, h2⟩)
        refine ((((h1.keeps hk8 ?_).keeps hk9 ?_)).ext (Ext.drew0 _)).mono ?_
        · rintro k (hk | hk) h9
          · have := HA.out k hk; unfold OneB at h9; omega
          · have := HE.out.size; unfold OneB at h9; omega
        · rintro k (hk | hk) h9
          · have := HA.out k hk; unfold OneB at h9; omega
          · have := HE.out.size; unfold OneB at h9; omega
        · rintro k (hk | hk)
          · exact .inl hk
          · exact .inr ⟨by have := HE.out.size; omega, by show k < w9.heap.size; omega⟩
      · refine ((((HQ.out.ext hE7).keeps hk8 ?_).keeps hk9 ?_).ext (Ext.drew0 _)).mono fun k hk => .inl hk
        · intro k hk h9; have := HA.out k hk; unfold OneB at h9; omega
        · intro k hk h9; have := HA.out k hk; unfold OneB at h9; omega
      · exact ((hE7.then hk8 (fun i hi h => by unfold OneB at h; omega)).then hk9 (fun i hi h => by unfold OneB at h; omega)).drew
    · skip
      go_wp2_with fail
      refine ⟨ClsE.of (by repeat (first | assumption | exact Keeps.refl _ _ | refine Keeps.alloc ?_ _ | refine Keeps.setOne ?_ _ _ | refine Keeps.setCell ?_ _ _ (.inl (by first | rfl | exact .inl rfl | exact .inr rfl | omega)) | refine Keeps.drew ?_)), ?_⟩; try simp only [Act.put, List.setIfInBounds_toArray, List.set_cons_zero, List.set_cons_succ]
      refine any_end [(2, 3), (2, 10), (0, 11)] [12, 13, 14, 15] (by kernel_rfl) (fun _ _ _ d _ h => by cases d <;> exact h) (by kernel_rfl) (by kernel_rfl) rfl rfl (ClsE.of (by repeat (first | assumption | exact Keeps.refl _ _ | refine Keeps.alloc ?_ _ | refine Keeps.setOne ?_ _ _ | refine Keeps.setCell ?_ _ _ (.inl (by first | rfl | exact .inl rfl | exact .inr rfl | omega)) | refine Keeps.drew ?_))) ?_; simp only [planL, List.getElem?_toArray, List.getElem?_cons_succ, List.getElem?_cons_zero]
      refine plan_does rfl (fun K hK => ?_)
      have hk0 : Ext w3 (((w3.alloc (Obj.cells #[] 50)).alloc (Obj.cells #[] 5)).drew) := (by repeat (first | exact Keeps.refl _ _ | refine Keeps.alloc ?_ _ | refine Keeps.drew ?_))
      obtain ⟨cs1, hrow1, hsrc1⟩ := ((HP.out.ext HE.out).ext hk0).row
      obtain ⟨v1, w4, hr1, hwin1, hk1, ho1⟩ := append_pars (A := A) (((w3.alloc (Obj.cells #[] 50)).alloc (Obj.cells #[] 5)).drew) w3.heap.size (.slice (some ⟨w3.heap.size, 0, none⟩) 0 0) [] [] 38 (Win.empty (by omega) (by simp <;> omega)) _ cs1 N.l hsrc1 hrow1 (by simp; omega) (by simp <;> omega)
      have hE4 : Ext w3 w4 := hk0.then hk1 (fun i hi h2 => by have := own_eq h2; omega)
      simp only [List.nil_append] at hwin1
      obtain ⟨a1, d1, rfl⟩ := hwin1.len
      have hs4 := hE4.size
      have hs45 := hk1.size
      simp only [World.size_alloc, World.size_drew] at hs45
      have HW1 := Lib.hid hwin1
      have HO1 := Lib.hid ho1
      have HR1 := Lib.hid (hrow1.mono fun c x h => h.keeps hk1 (fun k hk h2 => by have := HA.out k hk; have := own_eq h2; have := HE.out.size; omega))
      refine oper_append_ran _ _ hr1 rfl rfl rfl ?_
      clear hrow1 hsrc1 hr1 hk0 hwin1 ho1
      refine hK _ _ ⟨ClsE.of (by assumption), ?_⟩; clear hK K; try simp only [Act.put, List.setIfInBounds_toArray, List.set_cons_zero, List.set_cons_succ]
      refine plan_does rfl (fun K hK => ?_)
      have hk5 : Ext w4 w4 := (by repeat (first | exact Keeps.refl _ _ | refine Keeps.alloc ?_ _ | refine Keeps.drew ?_))
      have hE5' : Ext w3 w4 := hE4.ext hk5
      obtain ⟨v2, w5, hr2, hwin2, hk2, ho2⟩ := append_bytes w4 w3.heap.size (.slice (some ⟨(w3.heap.size + 1), 0, none⟩) 0 0) [] 30 (Win.empty (by omega) (by first | omega | (simp <;> omega))) _ bl ((HB.out.ext HE.out).ext hE5') (by simp; omega) (by have := hE5'.size; omega)
      have hE5 : Ext w3 w5 := hE5'.then hk2 (fun i hi h2 => by have := own_eq h2; omega)
      simp only [List.nil_append] at hwin2
      have HW5 := Lib.hid ((HW1.out.ext hk5).keeps hk2 (fun g hg h2 => by have := HW1.out.block g hg; have := own_eq h2; have g1 := HO1.out; rw [hg] at g1; simp only [Value.ownBlock, Option.some.injEq, World.size_alloc, World.size_drew] at g1; omega))
      have HR5 := Lib.hid (HR1.out.mono fun c x h => (h.keeps (Ext.keeps hk5) (fun _ _ h => h)).keeps hk2 (fun k hk h2 => by have := HA.out k hk; have := own_eq h2; have := HE.out.size; omega))
      obtain ⟨a2, d2, rfl⟩ := hwin2.len
      have HW2 := Lib.hid hwin2
      have HO2 := Lib.hid ho2
      refine oper_append_ran _ _ hr2 rfl rfl rfl ?_
      clear hr2 hwin2 ho2
      have HBY : Hid (Bytes w5 (fun k => w3.heap.size ≤ k ∧ k < w5.heap.size ∧ ¬ Own (.slice a1 N.l.length d1) k) (.slice a2 bl.length d2) bl) := Lib.hid ((Bytes.of_win HW2.out).own fun k hk ho => ⟨hk.1, hk.2, fun h9 => by
        have g1 := HO1.out
        have g2 := HO2.out
        unfold Own at ho h9
        rw [h9] at g1
        rw [ho] at g2
        have g3 := HW1.out.block k h9
        simp only [Value.ownBlock, Option.some.injEq, World.size_alloc, World.size_drew] at g1 g2 g3
        omega⟩)
      clear HW2 HO2 HO1
      refine hK _ _ ⟨ClsE.of (by assumption), ?_⟩; clear hK K; try simp only [Act.put, List.setIfInBounds_toArray, List.set_cons_zero, List.set_cons_succ]
      refine plan_pure rfl (fun K hK => quiet_run (v := ?_) (fun W _ => ?_) (hK _ ?_)); rotate_left; (go_simp <;> with_reducible rfl); clear hK K; simp only [Act.put, List.setIfInBounds_toArray, List.set_cons_zero, List.set_cons_succ]
      refine plan_nil ?_; simp only [tailL, List.filterMap_cons, List.filterMap_nil, List.getElem?_toArray, List.getElem?_cons_succ, List.getElem?_cons_zero]; change wpList _ _ _ (_ :: _ :: _ :: _ :: []) _ _
      go_wp2_with (at_builtin; refine standing ?_)
      clear cB0 zB0 lB0 cB1 zB1 lB1
      have HE5 := Lib.hid hE5
      have hs35 := hE5.size
      replace B0 := Lib.hid (B0.out.ext hE5)
      replace B1 := Lib.hid (B1.out.ext hE5)
      clear hE4 hE5 hE5' hk1 hk2 hk5
      have bz0 := (Box.new w5 50 [.int .i64 (N.came : Int), .int .i64 f, .int .i64 t, .slice a2 bl.length d2])
      have ez : Ext w5 (w5.alloc (Obj.cells #[.int .i64 (N.came : Int), .int .i64 f, .int .i64 t, .slice a2 bl.length d2] 50)) := ((Keeps.refl NoB w5).alloc _)
      have sz : (w5.alloc (Obj.cells #[.int .i64 (N.came : Int), .int .i64 f, .int .i64 t, .slice a2 bl.length d2] 50)).heap.size = w5.heap.size + 1 := by simp
      generalize (w5.alloc (Obj.cells #[.int .i64 (N.came : Int), .int .i64 f, .int .i64 t, .slice a2 bl.length d2] 50)) = w6 at bz0 ez sz ⊢
      have Sz := Lib.hid sz
      clear sz
      have h6 := ez.size
      have hbase : w3.heap.size ≤ w6.heap.size := by omega
      have HA3 : Hid (∀ k, A k → k < w3.heap.size) := Lib.hid (fun k hk => by have := HA.out k hk; have := HE.out.size; omega)
      obtain ⟨v3, w7, hr3, hwin3, hk3, ho3⟩ := append_pars (A := fun k => A k ∨ (w3.heap.size ≤ k ∧ k < w5.heap.size ∧ ¬ Own (.slice a1 N.l.length d1) k)) w6 w3.heap.size _ cs1 N.l 38 (HW5.out.ext ez) (.slice (some ⟨w5.heap.size, 0, none⟩) 1 1) [.int .i64 (N.came : Int), .int .i64 f, .int .i64 t, .slice a2 bl.length d2] [⟨N.came, f, t, bl⟩] (Box.src bz0 1 1) (RowOf.one ⟨_, rfl, (HBY.out.mono fun k hk => .inr hk).ext ez⟩ rfl) (by simp; omega) hbase
      obtain ⟨n3, hn3⟩ : ∃ n3, (N.l ++ [(⟨N.came, f, t, bl⟩ : Pc)]).length = n3 := ⟨_, rfl⟩
      rw [hn3] at hwin3
      obtain ⟨a3, d3, rfl⟩ := hwin3.len
      have hnew : ∀ k, A k ∨ (w3.heap.size ≤ k ∧ k < w5.heap.size ∧ ¬ Own (.slice a1 N.l.length d1) k) → ¬ Own (.slice a1 N.l.length d1) k := fun k hk h2 => by
        rcases hk with hk | hk
        · have := HW5.out.block k h2; have := HA3.out k hk; omega
        · exact hk.2.2 h2
      have HROW : Hid (RowOf 4 (ParEn w7 (fun k => A k ∨ (w3.heap.size ≤ k ∧ k < w5.heap.size ∧ ¬ Own (.slice a1 N.l.length d1) k))) (cs1 ++ [.int .i64 (N.came : Int), .int .i64 f, .int .i64 t, .slice a2 bl.length d2]) (N.l ++ [⟨N.came, f, t, bl⟩])) := Lib.hid (RowOf.append (HR5.out.mono fun c x h => ((h.mono fun k hk => .inl hk).keeps (Ext.keeps ez) (fun _ _ h => h)).keeps hk3 hnew) (RowOf.one ⟨_, rfl, ((HBY.out.mono fun k hk => .inr hk).ext ez).keeps hk3 hnew⟩ rfl))
      have hE7 : Ext w w7 := ((HE.out.ext HE5.out).ext ez).then hk3 (fun i hi h => by have := HW5.out.block i h; have := HE.out.size; omega)
      have HW7 := Lib.hid hwin3
      have HN3 := Lib.hid hn3
      have hs7 := hk3.size
      have HB0 := Lib.hid ((B0.out.ext ez).keeps hk3 (fun h => by have := HW5.out.block _ h; have := B0.out.lt; omega))
      have HB1 := Lib.hid ((B1.out.ext ez).keeps hk3 (fun h => by have := HW5.out.block _ h; have := B1.out.lt; omega))
      clear ez bz0 hwin3 hk3 ho3 hnew hn3 B0 B1 HBY HW5 HR5
      refine ⟨?_⟩
      refine wpList_append_ran rfl _ _ hr3 rfl rfl rfl ?_
      clear hr3
      obtain ⟨cHB0, zHB0⟩ := HB0.out.reads
      have lHB0 := HB0.out.lt
      obtain ⟨cHB1, zHB1⟩ := HB1.out.reads
      have lHB1 := HB1.out.lt
      go_wp2_with fail
      clear cHB0 zHB0 lHB0 cHB1 zHB1 lHB1
      have q1 := (HB0.out.set 3 (.slice a3 n3 d3)).set 2 (.int .i64 ((N.came : Int) + 1))
      dsimp only [List.set_cons_zero, List.set_cons_succ] at q1
      have hk8 : Keeps (OneB w.heap.size) w7 ((w7.setCell ⟨w.heap.size, 3, none⟩ (.slice a3 n3 d3)).setCell ⟨w.heap.size, 2, none⟩ (.int .i64 ((N.came : Int) + 1))) := ((Keeps.refl _ _).setOne _ _).setOne _ _
      generalize ((w7.setCell ⟨w.heap.size, 3, none⟩ (.slice a3 n3 d3)).setCell ⟨w.heap.size, 2, none⟩ (.int .i64 ((N.came : Int) + 1))) = w8 at q1 hk8 ⊢
      have C0 := Lib.hid q1
      have C1 := Lib.hid (HB1.out.keeps hk8 (by unfold OneB; omega))
      have hs8 := hk8.size
      clear q1 HB0 HB1
      obtain ⟨cC0, zC0⟩ := C0.out.reads
      have lC0 := C0.out.lt
      obtain ⟨cC1, zC1⟩ := C1.out.reads
      have lC1 := C1.out.lt
      have hE0 : Keeps (OneB (w.heap.size + 1)) w8 w8.drew := (Keeps.refl _ _).drew
      refine wp_region_plan [(3, 0), (0, 1), (1, 2), (0, 3), (2, 4), (0, 5), (0, 6)] [2] [4] [] (ClsK (OneB (w.heap.size + 1)) w8) (by kernel_rfl) (by kernel_rfl) (by kernel_rfl) rfl rfl (ClsK.of hE0) (fun _ _ _ d _ h => by cases d <;> exact h) ?_; simp only [planL, List.getElem?_toArray, List.getElem?_cons_succ, List.getElem?_cons_zero]
      refine plan_exact rfl (fun K hK => quiet_runX (v := ?_) ?_ (hK _ ?_)); rotate_left; (go_simp <;> with_reducible rfl); clear hK K; simp only [Act.put, List.setIfInBounds_toArray, List.set_cons_zero, List.set_cons_succ]
      refine plan_pure rfl (fun K hK => quiet_run (v := ?_) (fun W _ => ?_) (hK _ ?_)); rotate_left; (go_simp <;> with_reducible rfl); clear hK K; simp only [Act.put, List.setIfInBounds_toArray, List.set_cons_zero, List.set_cons_succ]
      refine plan_load rfl (fun K hK => quiet_runK (v := ?_) (fun W => ?_) (hK _ ?_)); rotate_left; (go_simp <;> with_reducible rfl); clear hK K; simp only [Act.put, List.setIfInBounds_toArray, List.set_cons_zero, List.set_cons_succ]
      refine plan_pure rfl (fun K hK => quiet_run (v := ?_) (fun W _ => ?_) (hK _ ?_)); rotate_left; (go_simp <;> with_reducible rfl); clear hK K; simp only [Act.put, List.setIfInBounds_toArray, List.set_cons_zero, List.set_cons_succ]
      refine plan_does rfl (fun K hK => ?_)
      go_wp2_with fail
      refine ⟨ClsK.of (by repeat (first | assumption | exact Keeps.refl _ _ | refine Keeps.alloc ?_ _ | refine Keeps.setOne ?_ _ _ | refine Keeps.setCell ?_ _ _ (.inl (by first | rfl | exact .inl rfl | exact .inr rfl | omega)) | refine Keeps.drew ?_)), ?_⟩; try simp only [Act.put]
      refine plan_pure rfl (fun K hK => quiet_assign' _ rfl (hK _ ?_)); clear hK K; simp only [Act.put, Act.eval, Array.getD_eq_getD_getElem?, List.getElem?_toArray, List.getElem?_cons_zero, List.getElem?_cons_succ, Option.getD_some, List.setIfInBounds_toArray, List.set_cons_zero, List.set_cons_succ]
      refine plan_pure rfl (fun K hK => quiet_assign' _ rfl (hK _ ?_)); clear hK K; simp only [Act.put, Act.eval, List.setIfInBounds_toArray, List.set_cons_zero, List.set_cons_succ]
      refine plan_nil ?_; simp only [tailL, List.filterMap_nil]
      go_wp2_with fail
      clear cC0 zC0 lC0 cC1 zC1 lC1
      have q1 := (((((C1.out.set 0 (.int .i64 (N.ends : Int))).set 1 (.int .i64 (N.most : Int))).set 2 (.int .i64 ((N.came : Int) + 1))).set 3 (.slice a3 n3 d3)).set 4 (.slice a' N.downs.length c'))
      dsimp only [List.set_cons_zero, List.set_cons_succ] at q1
      have hk9 : Keeps (OneB (w.heap.size + 1)) w8 (((((w8.setCell ⟨w.heap.size + 1, 0, none⟩ (.int .i64 (N.ends : Int))).setCell ⟨w.heap.size + 1, 1, none⟩ (.int .i64 (N.most : Int))).setCell ⟨w.heap.size + 1, 2, none⟩ (.int .i64 ((N.came : Int) + 1))).setCell ⟨w.heap.size + 1, 3, none⟩ (.slice a3 n3 d3)).setCell ⟨w.heap.size + 1, 4, none⟩ (.slice a' N.downs.length c')) :=
        (((((Keeps.refl _ _).setOne _ _).setOne _ _).setOne _ _).setOne _ _).setOne _ _
      have q2 := q1.reads.1
      generalize (((((w8.setCell ⟨w.heap.size + 1, 0, none⟩ (.int .i64 (N.ends : Int))).setCell ⟨w.heap.size + 1, 1, none⟩ (.int .i64 (N.most : Int))).setCell ⟨w.heap.size + 1, 2, none⟩ (.int .i64 ((N.came : Int) + 1))).setCell ⟨w.heap.size + 1, 3, none⟩ (.slice a3 n3 d3)).setCell ⟨w.heap.size + 1, 4, none⟩ (.slice a' N.downs.length c')) = w9 at q2 hk9 ⊢
      have hs9 := hk9.size
      have hlen : (N.put f t bl).l.length = n3 := HN3.out
      refine bodyPost_ret (v := .tuple #[.agg #[.int .i64 (N.ends : Int), .int .i64 (N.most : Int), .int .i64 ((N.came : Int) + 1), .slice a3 n3 d3, .slice a' N.downs.length c'], .int .i64 (N.came : Int), .int .i64 0]) (by simp [results, Try.results47, go_sem, q2]) rfl ⟨_, rfl, ⟨_, _, rfl, ?_, ?_⟩, ?_⟩
      · have h1 : ParsV w7 (fun k => A k ∨ (w3.heap.size ≤ k ∧ k < w7.heap.size)) (.slice a3 n3 d3) (N.put f t bl).l := ParsV.of_win HW7.out hlen.symm HROW.out (fun k hk => hk.imp id fun h => ⟨h.1, by omega⟩) (fun k h1 h2 => .inr ⟨h1, h2⟩)
        refine ((((h1.keeps hk8 ?_).keeps hk9 ?_)).ext (Ext.drew0 _)).mono ?_
        · rintro k (hk | hk) h9
          · have := HA.out k hk; unfold OneB at h9; omega
          · have := HE.out.size; unfold OneB at h9; omega
        · rintro k (hk | hk) h9
          · have := HA.out k hk; unfold OneB at h9; omega
          · have := HE.out.size; unfold OneB at h9; omega
        · rintro k (hk | hk)
          · exact .inl hk
          · exact .inr ⟨by have := HE.out.size; omega, by show k < w9.heap.size; omega⟩
      · refine ((((HQ.out.ext hE7).keeps hk8 ?_).keeps hk9 ?_).ext (Ext.drew0 _)).mono fun k hk => .inl hk
        · intro k hk h9; have := HA.out k hk; unfold OneB at h9; omega
        · intro k hk h9; have := HA.out k hk; unfold OneB at h9; omega
      · exact ((hE7.then hk8 (fun i hi h => by unfold OneB at h; omega)).then hk9 (fun i hi h => by unfold OneB at h; omega)).drew
  · skip
    go_wp2_with fail
    refine ⟨ClsE.of (by repeat (first | assumption | exact Keeps.refl _ _ | refine Keeps.alloc ?_ _ | refine Keeps.setOne ?_ _ _ | refine Keeps.setCell ?_ _ _ (.inl (by first | rfl | exact .inl rfl | exact .inr rfl | omega)) | refine Keeps.drew ?_)), ?_⟩; try simp only [Act.put, List.setIfInBounds_toArray, List.set_cons_zero, List.set_cons_succ]
    refine any_end [(2, 0), (2, 3), (2, 10), (0, 11)] [12, 13, 14, 15] (by kernel_rfl) (fun _ _ _ d _ h => by cases d <;> exact h) (by kernel_rfl) (by kernel_rfl) rfl rfl (ClsE.of (by repeat (first | assumption | exact Keeps.refl _ _ | refine Keeps.alloc ?_ _ | refine Keeps.setOne ?_ _ _ | refine Keeps.setCell ?_ _ _ (.inl (by first | rfl | exact .inl rfl | exact .inr rfl | omega)) | refine Keeps.drew ?_))) ?_; simp only [planL, List.getElem?_toArray, List.getElem?_cons_succ, List.getElem?_cons_zero]
    refine plan_does rfl (fun K hK => ?_)
    go_wp2_with fail
    refine ⟨ClsE.of (by repeat (first | assumption | exact Keeps.refl _ _ | refine Keeps.alloc ?_ _ | refine Keeps.setOne ?_ _ _ | refine Keeps.setCell ?_ _ _ (.inl (by first | rfl | exact .inl rfl | exact .inr rfl | omega)) | refine Keeps.drew ?_)), ?_⟩; try simp only [Act.put, List.setIfInBounds_toArray, List.set_cons_zero, List.set_cons_succ]
    refine plan_does rfl (fun K hK => ?_)
    have hk0 : Ext w3 (((w3.alloc (Obj.cells #[] 5)).alloc (Obj.cells #[] 50)).drew) := (by repeat (first | exact Keeps.refl _ _ | refine Keeps.alloc ?_ _ | refine Keeps.drew ?_))
    obtain ⟨cs1, hrow1, hsrc1⟩ := ((HP.out.ext HE.out).ext hk0).row
    obtain ⟨v1, w4, hr1, hwin1, hk1, ho1⟩ := append_pars (A := A) (((w3.alloc (Obj.cells #[] 5)).alloc (Obj.cells #[] 50)).drew) w3.heap.size (.slice (some ⟨(w3.heap.size + 1), 0, none⟩) 0 0) [] [] 38 (Win.empty (by omega) (by simp <;> omega)) _ cs1 N.l hsrc1 hrow1 (by simp; omega) (by simp <;> omega)
    have hE4 : Ext w3 w4 := hk0.then hk1 (fun i hi h2 => by have := own_eq h2; omega)
    simp only [List.nil_append] at hwin1
    obtain ⟨a1, d1, rfl⟩ := hwin1.len
    have hs4 := hE4.size
    have hs45 := hk1.size
    simp only [World.size_alloc, World.size_drew] at hs45
    have HW1 := Lib.hid hwin1
    have HO1 := Lib.hid ho1
    have HR1 := Lib.hid (hrow1.mono fun c x h => h.keeps hk1 (fun k hk h2 => by have := HA.out k hk; have := own_eq h2; have := HE.out.size; omega))
    refine oper_append_ran _ _ hr1 rfl rfl rfl ?_
    clear hrow1 hsrc1 hr1 hk0 hwin1 ho1
    refine hK _ _ ⟨ClsE.of (by assumption), ?_⟩; clear hK K; try simp only [Act.put, List.setIfInBounds_toArray, List.set_cons_zero, List.set_cons_succ]
    refine plan_does rfl (fun K hK => ?_)
    have hk5 : Ext w4 w4 := (by repeat (first | exact Keeps.refl _ _ | refine Keeps.alloc ?_ _ | refine Keeps.drew ?_))
    have hE5' : Ext w3 w4 := hE4.ext hk5
    obtain ⟨v2, w5, hr2, hwin2, hk2, ho2⟩ := append_bytes w4 w3.heap.size (.slice (some ⟨w3.heap.size, 0, none⟩) 0 0) [] 30 (Win.empty (by omega) (by first | omega | (simp <;> omega))) _ bl ((HB.out.ext HE.out).ext hE5') (by simp; omega) (by have := hE5'.size; omega)
    have hE5 : Ext w3 w5 := hE5'.then hk2 (fun i hi h2 => by have := own_eq h2; omega)
    simp only [List.nil_append] at hwin2
    have HW5 := Lib.hid ((HW1.out.ext hk5).keeps hk2 (fun g hg h2 => by have := HW1.out.block g hg; have := own_eq h2; have g1 := HO1.out; rw [hg] at g1; simp only [Value.ownBlock, Option.some.injEq, World.size_alloc, World.size_drew] at g1; omega))
    have HR5 := Lib.hid (HR1.out.mono fun c x h => (h.keeps (Ext.keeps hk5) (fun _ _ h => h)).keeps hk2 (fun k hk h2 => by have := HA.out k hk; have := own_eq h2; have := HE.out.size; omega))
    obtain ⟨a2, d2, rfl⟩ := hwin2.len
    have HW2 := Lib.hid hwin2
    have HO2 := Lib.hid ho2
    refine oper_append_ran _ _ hr2 rfl rfl rfl ?_
    clear hr2 hwin2 ho2
    have HBY : Hid (Bytes w5 (fun k => w3.heap.size ≤ k ∧ k < w5.heap.size ∧ ¬ Own (.slice a1 N.l.length d1) k) (.slice a2 bl.length d2) bl) := Lib.hid ((Bytes.of_win HW2.out).own fun k hk ho => ⟨hk.1, hk.2, fun h9 => by
      have g1 := HO1.out
      have g2 := HO2.out
      unfold Own at ho h9
      rw [h9] at g1
      rw [ho] at g2
      have g3 := HW1.out.block k h9
      simp only [Value.ownBlock, Option.some.injEq, World.size_alloc, World.size_drew] at g1 g2 g3
      omega⟩)
    clear HW2 HO2 HO1
    refine hK _ _ ⟨ClsE.of (by assumption), ?_⟩; clear hK K; try simp only [Act.put, List.setIfInBounds_toArray, List.set_cons_zero, List.set_cons_succ]
    refine plan_pure rfl (fun K hK => quiet_run (v := ?_) (fun W _ => ?_) (hK _ ?_)); rotate_left; (go_simp <;> with_reducible rfl); clear hK K; simp only [Act.put, List.setIfInBounds_toArray, List.set_cons_zero, List.set_cons_succ]
    refine plan_nil ?_; simp only [tailL, List.filterMap_cons, List.filterMap_nil, List.getElem?_toArray, List.getElem?_cons_succ, List.getElem?_cons_zero]; change wpList _ _ _ (_ :: _ :: _ :: _ :: []) _ _
    go_wp2_with (at_builtin; refine standing ?_)
    clear cB0 zB0 lB0 cB1 zB1 lB1
    have HE5 := Lib.hid hE5
    have hs35 := hE5.size
    replace B0 := Lib.hid (B0.out.ext hE5)
    replace B1 := Lib.hid (B1.out.ext hE5)
    clear hE4 hE5 hE5' hk1 hk2 hk5
    have bz0 := (Box.new w5 50 [.int .i64 (N.came : Int), .int .i64 f, .int .i64 t, .slice a2 bl.length d2])
    have ez : Ext w5 (w5.alloc (Obj.cells #[.int .i64 (N.came : Int), .int .i64 f, .int .i64 t, .slice a2 bl.length d2] 50)) := ((Keeps.refl NoB w5).alloc _)
    have sz : (w5.alloc (Obj.cells #[.int .i64 (N.came : Int), .int .i64 f, .int .i64 t, .slice a2 bl.length d2] 50)).heap.size = w5.heap.size + 1 := by simp
    generalize (w5.alloc (Obj.cells #[.int .i64 (N.came : Int), .int .i64 f, .int .i64 t, .slice a2 bl.length d2] 50)) = w6 at bz0 ez sz ⊢
    have Sz := Lib.hid sz
    clear sz
    have h6 := ez.size
    have hbase : w3.heap.size ≤ w6.heap.size := by omega
    have HA3 : Hid (∀ k, A k → k < w3.heap.size) := Lib.hid (fun k hk => by have := HA.out k hk; have := HE.out.size; omega)
    obtain ⟨v3, w7, hr3, hwin3, hk3, ho3⟩ := append_pars (A := fun k => A k ∨ (w3.heap.size ≤ k ∧ k < w5.heap.size ∧ ¬ Own (.slice a1 N.l.length d1) k)) w6 w3.heap.size _ cs1 N.l 38 (HW5.out.ext ez) (.slice (some ⟨w5.heap.size, 0, none⟩) 1 1) [.int .i64 (N.came : Int), .int .i64 f, .int .i64 t, .slice a2 bl.length d2] [⟨N.came, f, t, bl⟩] (Box.src bz0 1 1) (RowOf.one ⟨_, rfl, (HBY.out.mono fun k hk => .inr hk).ext ez⟩ rfl) (by simp; omega) hbase
    obtain ⟨n3, hn3⟩ : ∃ n3, (N.l ++ [(⟨N.came, f, t, bl⟩ : Pc)]).length = n3 := ⟨_, rfl⟩
    rw [hn3] at hwin3
    obtain ⟨a3, d3, rfl⟩ := hwin3.len
    have hnew : ∀ k, A k ∨ (w3.heap.size ≤ k ∧ k < w5.heap.size ∧ ¬ Own (.slice a1 N.l.length d1) k) → ¬ Own (.slice a1 N.l.length d1) k := fun k hk h2 => by
      rcases hk with hk | hk
      · have := HW5.out.block k h2; have := HA3.out k hk; omega
      · exact hk.2.2 h2
    have HROW : Hid (RowOf 4 (ParEn w7 (fun k => A k ∨ (w3.heap.size ≤ k ∧ k < w5.heap.size ∧ ¬ Own (.slice a1 N.l.length d1) k))) (cs1 ++ [.int .i64 (N.came : Int), .int .i64 f, .int .i64 t, .slice a2 bl.length d2]) (N.l ++ [⟨N.came, f, t, bl⟩])) := Lib.hid (RowOf.append (HR5.out.mono fun c x h => ((h.mono fun k hk => .inl hk).keeps (Ext.keeps ez) (fun _ _ h => h)).keeps hk3 hnew) (RowOf.one ⟨_, rfl, ((HBY.out.mono fun k hk => .inr hk).ext ez).keeps hk3 hnew⟩ rfl))
    have hE7 : Ext w w7 := ((HE.out.ext HE5.out).ext ez).then hk3 (fun i hi h => by have := HW5.out.block i h; have := HE.out.size; omega)
    have HW7 := Lib.hid hwin3
    have HN3 := Lib.hid hn3
    have hs7 := hk3.size
    have HB0 := Lib.hid ((B0.out.ext ez).keeps hk3 (fun h => by have := HW5.out.block _ h; have := B0.out.lt; omega))
    have HB1 := Lib.hid ((B1.out.ext ez).keeps hk3 (fun h => by have := HW5.out.block _ h; have := B1.out.lt; omega))
    clear ez bz0 hwin3 hk3 ho3 hnew hn3 B0 B1 HBY HW5 HR5
    refine ⟨?_⟩
    refine wpList_append_ran rfl _ _ hr3 rfl rfl rfl ?_
    clear hr3
    obtain ⟨cHB0, zHB0⟩ := HB0.out.reads
    have lHB0 := HB0.out.lt
    obtain ⟨cHB1, zHB1⟩ := HB1.out.reads
    have lHB1 := HB1.out.lt
    go_wp2_with fail
    clear cHB0 zHB0 lHB0 cHB1 zHB1 lHB1
    have q1 := (HB0.out.set 3 (.slice a3 n3 d3)).set 2 (.int .i64 ((N.came : Int) + 1))
    dsimp only [List.set_cons_zero, List.set_cons_succ] at q1
    have hk8 : Keeps (OneB w.heap.size) w7 ((w7.setCell ⟨w.heap.size, 3, none⟩ (.slice a3 n3 d3)).setCell ⟨w.heap.size, 2, none⟩ (.int .i64 ((N.came : Int) + 1))) := ((Keeps.refl _ _).setOne _ _).setOne _ _
    generalize ((w7.setCell ⟨w.heap.size, 3, none⟩ (.slice a3 n3 d3)).setCell ⟨w.heap.size, 2, none⟩ (.int .i64 ((N.came : Int) + 1))) = w8 at q1 hk8 ⊢
    have C0 := Lib.hid q1
    have C1 := Lib.hid (HB1.out.keeps hk8 (by unfold OneB; omega))
    have hs8 := hk8.size
    clear q1 HB0 HB1
    obtain ⟨cC0, zC0⟩ := C0.out.reads
    have lC0 := C0.out.lt
    obtain ⟨cC1, zC1⟩ := C1.out.reads
    have lC1 := C1.out.lt
    have hE0 : Keeps (OneB (w.heap.size + 1)) w8 w8.drew := (Keeps.refl _ _).drew
    refine wp_region_plan [(3, 0), (0, 1), (1, 2), (0, 3), (2, 4), (0, 5), (0, 6)] [2] [4] [] (ClsK (OneB (w.heap.size + 1)) w8) (by kernel_rfl) (by kernel_rfl) (by kernel_rfl) rfl rfl (ClsK.of hE0) (fun _ _ _ d _ h => by cases d <;> exact h) ?_; simp only [planL, List.getElem?_toArray, List.getElem?_cons_succ, List.getElem?_cons_zero]
    refine plan_exact rfl (fun K hK => quiet_runX (v := ?_) ?_ (hK _ ?_)); rotate_left; (go_simp <;> with_reducible rfl); clear hK K; simp only [Act.put, List.setIfInBounds_toArray, List.set_cons_zero, List.set_cons_succ]
    refine plan_pure rfl (fun K hK => quiet_run (v := ?_) (fun W _ => ?_) (hK _ ?_)); rotate_left; (go_simp <;> with_reducible rfl); clear hK K; simp only [Act.put, List.setIfInBounds_toArray, List.set_cons_zero, List.set_cons_succ]
    refine plan_load rfl (fun K hK => quiet_runK (v := ?_) (fun W => ?_) (hK _ ?_)); rotate_left; (go_simp <;> with_reducible rfl); clear hK K; simp only [Act.put, List.setIfInBounds_toArray, List.set_cons_zero, List.set_cons_succ]
    refine plan_pure rfl (fun K hK => quiet_run (v := ?_) (fun W _ => ?_) (hK _ ?_)); rotate_left; (go_simp <;> with_reducible rfl); clear hK K; simp only [Act.put, List.setIfInBounds_toArray, List.set_cons_zero, List.set_cons_succ]
    refine plan_does rfl (fun K hK => ?_)
    go_wp2_with fail
    refine ⟨ClsK.of (by repeat (first | assumption | exact Keeps.refl _ _ | refine Keeps.alloc ?_ _ | refine Keeps.setOne ?_ _ _ | refine Keeps.setCell ?_ _ _ (.inl (by first | rfl | exact .inl rfl | exact .inr rfl | omega)) | refine Keeps.drew ?_)), ?_⟩; try simp only [Act.put]
    refine plan_pure rfl (fun K hK => quiet_assign' _ rfl (hK _ ?_)); clear hK K; simp only [Act.put, Act.eval, Array.getD_eq_getD_getElem?, List.getElem?_toArray, List.getElem?_cons_zero, List.getElem?_cons_succ, Option.getD_some, List.setIfInBounds_toArray, List.set_cons_zero, List.set_cons_succ]
    refine plan_pure rfl (fun K hK => quiet_assign' _ rfl (hK _ ?_)); clear hK K; simp only [Act.put, Act.eval, List.setIfInBounds_toArray, List.set_cons_zero, List.set_cons_succ]
    refine plan_nil ?_; simp only [tailL, List.filterMap_nil]
    go_wp2_with fail
    clear cC0 zC0 lC0 cC1 zC1 lC1
    have q1 := (((((C1.out.set 0 (.int .i64 (N.ends : Int))).set 1 (.int .i64 (N.most : Int))).set 2 (.int .i64 ((N.came : Int) + 1))).set 3 (.slice a3 n3 d3)).set 4 (.slice a' N.downs.length c'))
    dsimp only [List.set_cons_zero, List.set_cons_succ] at q1
    have hk9 : Keeps (OneB (w.heap.size + 1)) w8 (((((w8.setCell ⟨w.heap.size + 1, 0, none⟩ (.int .i64 (N.ends : Int))).setCell ⟨w.heap.size + 1, 1, none⟩ (.int .i64 (N.most : Int))).setCell ⟨w.heap.size + 1, 2, none⟩ (.int .i64 ((N.came : Int) + 1))).setCell ⟨w.heap.size + 1, 3, none⟩ (.slice a3 n3 d3)).setCell ⟨w.heap.size + 1, 4, none⟩ (.slice a' N.downs.length c')) :=
      (((((Keeps.refl _ _).setOne _ _).setOne _ _).setOne _ _).setOne _ _).setOne _ _
    have q2 := q1.reads.1
    generalize (((((w8.setCell ⟨w.heap.size + 1, 0, none⟩ (.int .i64 (N.ends : Int))).setCell ⟨w.heap.size + 1, 1, none⟩ (.int .i64 (N.most : Int))).setCell ⟨w.heap.size + 1, 2, none⟩ (.int .i64 ((N.came : Int) + 1))).setCell ⟨w.heap.size + 1, 3, none⟩ (.slice a3 n3 d3)).setCell ⟨w.heap.size + 1, 4, none⟩ (.slice a' N.downs.length c')) = w9 at q2 hk9 ⊢
    have hs9 := hk9.size
    have hlen : (N.put f t bl).l.length = n3 := HN3.out
    refine bodyPost_ret (v := .tuple #[.agg #[.int .i64 (N.ends : Int), .int .i64 (N.most : Int), .int .i64 ((N.came : Int) + 1), .slice a3 n3 d3, .slice a' N.downs.length c'], .int .i64 (N.came : Int), .int .i64 0]) (by simp [results, Try.results47, go_sem, q2]) rfl ⟨_, rfl, ⟨_, _, rfl, ?_, ?_⟩, ?_⟩
    · have h1 : ParsV w7 (fun k => A k ∨ (w3.heap.size ≤ k ∧ k < w7.heap.size)) (.slice a3 n3 d3) (N.put f t bl).l := ParsV.of_win HW7.out hlen.symm HROW.out (fun k hk => hk.imp id fun h => ⟨h.1, by omega⟩) (fun k h1 h2 => .inr ⟨h1, h2⟩)
      refine ((((h1.keeps hk8 ?_).keeps hk9 ?_)).ext (Ext.drew0 _)).mono ?_
      · rintro k (hk | hk) h9
        · have := HA.out k hk; unfold OneB at h9; omega
        · have := HE.out.size; unfold OneB at h9; omega
      · rintro k (hk | hk) h9
        · have := HA.out k hk; unfold OneB at h9; omega
        · have := HE.out.size; unfold OneB at h9; omega
      · rintro k (hk | hk)
        · exact .inl hk
        · exact .inr ⟨by have := HE.out.size; omega, by show k < w9.heap.size; omega⟩
    · refine ((((HQ.out.ext hE7).keeps hk8 ?_).keeps hk9 ?_).ext (Ext.drew0 _)).mono fun k hk => .inl hk
      · intro k hk h9; have := HA.out k hk; unfold OneB at h9; omega
      · intro k hk h9; have := HA.out k hk; unfold OneB at h9; omega
    · exact ((hE7.then hk8 (fun i hi h => by unfold OneB at h; omega)).then hk9 (fun i hi h => by unfold OneB at h; omega)).drew
end Go.Proofs.Ytdiogipdcpiffaa
