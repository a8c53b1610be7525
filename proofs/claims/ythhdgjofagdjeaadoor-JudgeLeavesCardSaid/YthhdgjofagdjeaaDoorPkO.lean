/- Texts VG, one behind the other. Conditions: as each says. -/
import Derived.Test.YthhdgjofagdjeaaDoorPkN
section
/- The document's judge: a place told a line. Condition: the judge reads as 'RefAt' says; the place is one of nine; the index is not below 0; the table of standings is that of the lines. -/
set_option linter.unusedVariables false
set_option linter.unusedSimpArgs false
set_option maxHeartbeats 4000000
set_option maxRecDepth 100000
namespace Go.Proofs.YthhdgjofagdjeaaDoor
open Go.RowKit Go.Shelf
theorem RefAt.setT {w : World} {A : Nat → Prop} {J : JA} {cs : List Value} (h : RefAt w A J cs) (v : Value) (T : TA) (hv : RowAt lnE w 0 v T.l) (hA : ∀ k, Own v k → A k) : RefAt w A { J with T := T } ((cs.set 2 (.int .i64 T.slot)).set 3 v) :=
  let ⟨vl, vp, h1, h2, h3, h4, h5, h6, h7⟩ := h
  ⟨v, vp, by rw [h1]; rfl, hv, hA, h4, h5, h6, h7⟩
theorem rline_any {A : Nat → Prop} (w : World) (J : JA) (cs : List Value) (p : Nat) (index : Int) (e : En) (h : RefAt w A J cs) (hp : p < 9) (hi0 : 0 ≤ index) (hi1 : J.told.getD p 0 ≤ J.T.l.length) (hl : J.T.l.length ≤ 4096) (hs0 : 0 ≤ J.T.slot) (hT : J.T.Ok) (ht : e.text.length ≤ 500000) (hpl : J.put.length ≤ 1000000) :
    Calls Tryd.prog 25 #[.agg cs.toArray, (⟨2, p, index, e⟩ : Sn).v] w fun r w' => ∃ cs', r = .returned (.tuple #[.agg cs'.toArray, .int .i64 (lineR J p index e).2]) ∧ RefAt w' (fun k => A k ∨ w.heap.size ≤ k) (lineR J p index e).1 cs' ∧ Ext w w' := by
  obtain ⟨al, cl, ap, cp, hlen, hone, -, -, c2, c3, cT, -, -, -, hvl, -⟩ := h.open
  have cp := cT p hp
  have HR := Lib.hid h
  have HV := Lib.hid hvl
  have HLEN := Lib.hid hlen
  have HONE := Lib.hid hone
  have HP := Lib.hid hp
  have HM := Lib.hid (Mem.start0 w)
  have g1 : (p : Int) < 9 := by omega
  have g2 : ¬ (p : Int) < 0 := by omega
  obtain ⟨n, hn⟩ : ∃ n, J.told.getD p 0 = n := ⟨_, rfl⟩
  rw [hn] at cp hi1
  have HN := Lib.hid hn
  have HX := Lib.hid (show _ ∧ _ ∧ _ ∧ _ ∧ _ ∧ _ from ⟨hl, hs0, hT, ht, hpl, hi1⟩)
  have HEV := Lib.hid (show e.v = .agg #[.int .i64 e.kind, .int .i64 e.member, .int .i64 e.number, .string (bs e.text)] from rfl)
  clear h hlen hone cT hn hp hvl hl hs0 hT ht hpl hi1
  unfold Sn.v
  dsimp only
  by_cases hx : index = n
  case neg =>
    have hq : lineR J p index e = (J, 403) := by unfold lineR; rw [if_pos (by rw [HN.out]; exact hx)]
    rw [hq]
    have hx' : (index != n) = true := by simpa using hx
    clear hq hx
    go_enter Tryd.func25, Tryd.ntmps25
    have fM := HM.out.facts
    simp only [seeS, talkR_tag, rowR_tag] at fM
    go_wp2_with (first
      | ((with_reducible refine at_list ?_); first
        | ((with_reducible refine at_load 49 _ rfl ?_); refine mem_load_wide 49 _ rfl rfl rfl (by with_reducible repeat first | exact HM.out | exact ph | apply pt | apply Mem.drew | apply Mem.alloc | apply Mem.set | apply Mem.allocO | (simp only [World.size_alloc, World.size_setCell, World.size_drew]; rfl) | rfl) (by with_reducible repeat first | exact ph | apply pt) Tryd.underlying49 rfl (infoRJ.trans (congrArg some (Eq.symm (by first | rfl | exact HLEN.out | exact HLEN1.out | (simp only [List.length_set]; first | exact HLEN.out | exact HLEN1.out))))) ?_)
        | ((first
          | ((with_reducible refine at_store 49 _ _ rfl ?_); refine mem_store_wide 49 _ _ rfl rfl rfl rfl (by with_reducible repeat first | exact HM.out | exact ph | apply pt | apply Mem.drew | apply Mem.alloc | apply Mem.set | apply Mem.allocO | (simp only [World.size_alloc, World.size_setCell, World.size_drew]; rfl) | rfl) (by with_reducible repeat first | exact ph | apply pt) infoRJ (by first | rfl | exact HLEN.out | exact HLEN1.out | (simp only [List.length_set]; first | exact HLEN.out | exact HLEN1.out)) (by first | rfl | exact HLEN.out | exact HLEN1.out | (simp only [List.length_set]; first | exact HLEN.out | exact HLEN1.out)) (by (repeat refine one_set ?_ rfl _); first | exact HONE.out | exact HONE1.out) ?_; intro w9 M)
          | ((with_reducible refine at_box 49 _ rfl ?_); refine mem_box_wide 49 _ rfl rfl rfl (by with_reducible repeat first | exact HM.out | exact ph | apply pt | apply Mem.drew | apply Mem.alloc | apply Mem.set | apply Mem.allocO | (simp only [World.size_alloc, World.size_setCell, World.size_drew]; rfl) | rfl) ?_; intro w9 n9 M)
          | ((with_reducible refine at_alloc 49 rfl ?_); refine mem_alloc_wide 49 rfl rfl (zeroRJ _) (by with_reducible repeat first | exact HM.out | exact ph | apply pt | apply Mem.drew | apply Mem.alloc | apply Mem.set | apply Mem.allocO | (simp only [World.size_alloc, World.size_setCell, World.size_drew]; rfl) | rfl) ?_; intro w9 n9 M)); (try simp only [List.set_cons_zero, List.set_cons_succ] at M); replace HM := Lib.hid M; clear M; clear fM; have fM := HM.out.facts; simp only [seeS, talkR_tag, rowR_tag] at fM)))
    all_goals clear fM
    first | apply Mem.call | apply Mem.postD | apply Mem.stop | apply Mem.toUpd | apply Mem.list | apply Mem.code | apply Mem.post | apply Mem.postM
    · with_reducible repeat first | exact HM.out | exact ph | apply pt | apply Mem.drew | apply Mem.alloc | apply Mem.set | apply Mem.allocO | (simp only [World.size_alloc, World.size_setCell, World.size_drew]; rfl) | rfl
    intro w0 M
    try simp only [List.set_cons_zero, List.set_cons_succ] at M
    replace HM := Lib.hid M
    clear M
    have fM := HM.out.facts
    simp only [seeS, talkR_tag, rowR_tag] at fM
    have hE0 : Keeps NoB w0 w0.drew := (Keeps.refl _ _).drew
    refine wp_region_plan [(0, 0), (3, 1), (0, 2), (3, 3), (0, 4), (0, 5), (3, 6), (0, 7)] [] [] [] (ClsE w0) (by kernel_rfl) (by kernel_rfl) (by kernel_rfl) rfl rfl (ClsE.of hE0) (fun _ _ _ d _ h => by cases d <;> exact h) ?_; simp only [planL, List.getElem?_toArray, List.getElem?_cons_succ, List.getElem?_cons_zero]
    refine plan_pure rfl (fun K hK => quiet_run (v := ?_) (fun W _ => ?_) (hK _ ?_)); rotate_left; (go_simp <;> with_reducible rfl); clear hK K; simp only [nP]
    refine plan_exact rfl (fun K hK => quiet_runX (v := ?_) ?_ (hK _ ?_)); rotate_left; (go_simp <;> with_reducible rfl); clear hK K; simp only [nP]
    refine plan_pure rfl (fun K hK => quiet_run (v := ?_) (fun W _ => ?_) (hK _ ?_)); rotate_left; (go_simp <;> with_reducible rfl); clear hK K; simp only [nP]
    refine plan_exact rfl (fun K hK => quiet_runX (v := ?_) ?_ (hK _ ?_)); rotate_left; (go_simp <;> with_reducible rfl); clear hK K; simp only [nP]
    refine plan_pure rfl (fun K hK => quiet_run (v := ?_) (fun W _ => ?_) (hK _ ?_)); rotate_left; (go_simp <;> with_reducible rfl); clear hK K; simp only [nP]
    refine plan_pure rfl (fun K hK => quiet_run (v := ?_) (fun W _ => ?_) (hK _ ?_)); rotate_left; (go_simp <;> with_reducible rfl); clear hK K; simp only [nP]
    refine plan_exact rfl (fun K hK => quiet_runX (v := ?_) ?_ (hK _ ?_)); rotate_left; (go_simp <;> with_reducible rfl); clear hK K; simp only [nP]
    refine plan_pure rfl (fun K hK => quiet_run (v := ?_) (fun W _ => ?_) (hK _ ?_)); rotate_left; (go_simp <;> with_reducible rfl); clear hK K; simp only [nP]
    refine plan_nil ?_; simp only [tailL, List.filterMap_nil]
    go_wp2_with (first
      | ((with_reducible refine at_list ?_); first
        | ((with_reducible refine at_load 49 _ rfl ?_); refine mem_load_wide 49 _ rfl rfl rfl (by with_reducible repeat first | exact HM.out | exact ph | apply pt | apply Mem.drew | apply Mem.alloc | apply Mem.set | apply Mem.allocO | (simp only [World.size_alloc, World.size_setCell, World.size_drew]; rfl) | rfl) (by with_reducible repeat first | exact ph | apply pt) Tryd.underlying49 rfl (infoRJ.trans (congrArg some (Eq.symm (by first | rfl | exact HLEN.out | exact HLEN1.out | (simp only [List.length_set]; first | exact HLEN.out | exact HLEN1.out))))) ?_)
        | ((first
          | ((with_reducible refine at_store 49 _ _ rfl ?_); refine mem_store_wide 49 _ _ rfl rfl rfl rfl (by with_reducible repeat first | exact HM.out | exact ph | apply pt | apply Mem.drew | apply Mem.alloc | apply Mem.set | apply Mem.allocO | (simp only [World.size_alloc, World.size_setCell, World.size_drew]; rfl) | rfl) (by with_reducible repeat first | exact ph | apply pt) infoRJ (by first | rfl | exact HLEN.out | exact HLEN1.out | (simp only [List.length_set]; first | exact HLEN.out | exact HLEN1.out)) (by first | rfl | exact HLEN.out | exact HLEN1.out | (simp only [List.length_set]; first | exact HLEN.out | exact HLEN1.out)) (by (repeat refine one_set ?_ rfl _); first | exact HONE.out | exact HONE1.out) ?_; intro w9 M)
          | ((with_reducible refine at_box 49 _ rfl ?_); refine mem_box_wide 49 _ rfl rfl rfl (by with_reducible repeat first | exact HM.out | exact ph | apply pt | apply Mem.drew | apply Mem.alloc | apply Mem.set | apply Mem.allocO | (simp only [World.size_alloc, World.size_setCell, World.size_drew]; rfl) | rfl) ?_; intro w9 n9 M)
          | ((with_reducible refine at_alloc 49 rfl ?_); refine mem_alloc_wide 49 rfl rfl (zeroRJ _) (by with_reducible repeat first | exact HM.out | exact ph | apply pt | apply Mem.drew | apply Mem.alloc | apply Mem.set | apply Mem.allocO | (simp only [World.size_alloc, World.size_setCell, World.size_drew]; rfl) | rfl) ?_; intro w9 n9 M)); (try simp only [List.set_cons_zero, List.set_cons_succ] at M); replace HM := Lib.hid M; clear M; clear fM; have fM := HM.out.facts; simp only [seeS, talkR_tag, rowR_tag] at fM)))
    clear fM
    refine bodyPost_ret (results_ct Tryd.results25 _ rfl (loadVar_wide 49 (by with_reducible repeat first | exact HM.out | exact ph | apply pt | apply Mem.drew | apply Mem.alloc | apply Mem.set | apply Mem.allocO | (simp only [World.size_alloc, World.size_setCell, World.size_drew]; rfl) | rfl) (by with_reducible repeat first | exact ph | apply pt) Tryd.underlying49 rfl (infoRJ.trans (congrArg some (Eq.symm (by first | rfl | exact HLEN.out | exact HLEN1.out | (simp only [List.length_set]; first | exact HLEN.out | exact HLEN1.out))))))) rfl ?_
    refine ⟨_, rfl, ((HR.out).ext ?_).mono (fun k hk => .inl hk), ?_⟩ <;> (apply Mem.extTo; with_reducible repeat first | exact HM.out | exact ph | apply pt | apply Mem.drew | apply Mem.alloc | apply Mem.set | apply Mem.allocO | (simp only [World.size_alloc, World.size_setCell, World.size_drew]; rfl) | rfl)
  subst hx
  obtain ⟨k, rfl⟩ : ∃ k : Nat, index = k := ⟨index.toNat, by omega⟩
  clear hi0
  have hww : wrap64 ((k : Int) + 1) = (k : Int) + 1 := IntWalk.wrap64_in _ (by have := HX.out; omega)
  by_cases hk : k < J.T.l.length
  · have gk : (k : Int) < (J.T.l.length : Int) := by omega
    have hb := hasB_at J.T.l k hk e
    obtain ⟨x, hx⟩ : ∃ x, J.T.l[k].e = x := ⟨_, rfl⟩
    rw [hx] at hb
    have HXE := Lib.hid hx
    have HK := Lib.hid hk
    have hq1 := fun W => ne_en x e W
    clear hx
    by_cases hd : x = e
    · rw [decide_eq_true hd] at hb hq1
      have hq : lineR J p k e = ({ J with told := J.told.set p ((k : Int) + 1) }, 0) := by unfold lineR; rw [if_neg (fun h => h HN.out.symm), if_pos gk, if_pos hb]
      rw [hq]
      clear hq hb hd
      go_enter Tryd.func25, Tryd.ntmps25
      have fM := HM.out.facts
      simp only [seeS, talkR_tag, rowR_tag] at fM
      go_wp2_with (first
        | ((with_reducible refine at_list ?_); first
          | ((with_reducible refine at_load 49 _ rfl ?_); refine mem_load_wide 49 _ rfl rfl rfl (by with_reducible repeat first | exact HM.out | exact ph | apply pt | apply Mem.drew | apply Mem.alloc | apply Mem.set | apply Mem.allocO | (simp only [World.size_alloc, World.size_setCell, World.size_drew]; rfl) | rfl) (by with_reducible repeat first | exact ph | apply pt) Tryd.underlying49 rfl (infoRJ.trans (congrArg some (Eq.symm (by first | rfl | exact HLEN.out | exact HLEN1.out | (simp only [List.length_set]; first | exact HLEN.out | exact HLEN1.out))))) ?_)
          | ((first
            | ((with_reducible refine at_store 49 _ _ rfl ?_); refine mem_store_wide 49 _ _ rfl rfl rfl rfl (by with_reducible repeat first | exact HM.out | exact ph | apply pt | apply Mem.drew | apply Mem.alloc | apply Mem.set | apply Mem.allocO | (simp only [World.size_alloc, World.size_setCell, World.size_drew]; rfl) | rfl) (by with_reducible repeat first | exact ph | apply pt) infoRJ (by first | rfl | exact HLEN.out | exact HLEN1.out | (simp only [List.length_set]; first | exact HLEN.out | exact HLEN1.out)) (by first | rfl | exact HLEN.out | exact HLEN1.out | (simp only [List.length_set]; first | exact HLEN.out | exact HLEN1.out)) (by (repeat refine one_set ?_ rfl _); first | exact HONE.out | exact HONE1.out) ?_; intro w9 M)
            | ((with_reducible refine at_box 49 _ rfl ?_); refine mem_box_wide 49 _ rfl rfl rfl (by with_reducible repeat first | exact HM.out | exact ph | apply pt | apply Mem.drew | apply Mem.alloc | apply Mem.set | apply Mem.allocO | (simp only [World.size_alloc, World.size_setCell, World.size_drew]; rfl) | rfl) ?_; intro w9 n9 M)
            | ((with_reducible refine at_alloc 49 rfl ?_); refine mem_alloc_wide 49 rfl rfl (zeroRJ _) (by with_reducible repeat first | exact HM.out | exact ph | apply pt | apply Mem.drew | apply Mem.alloc | apply Mem.set | apply Mem.allocO | (simp only [World.size_alloc, World.size_setCell, World.size_drew]; rfl) | rfl) ?_; intro w9 n9 M)); (try simp only [List.set_cons_zero, List.set_cons_succ] at M); replace HM := Lib.hid M; clear M; clear fM; have fM := HM.out.facts; simp only [seeS, talkR_tag, rowR_tag] at fM)))
      all_goals clear fM
      first | apply Mem.call | apply Mem.postD | apply Mem.stop | apply Mem.toUpd | apply Mem.list | apply Mem.code | apply Mem.post | apply Mem.postM
      · with_reducible repeat first | exact HM.out | exact ph | apply pt | apply Mem.drew | apply Mem.alloc | apply Mem.set | apply Mem.allocO | (simp only [World.size_alloc, World.size_setCell, World.size_drew]; rfl) | rfl
      intro w0 M
      try simp only [List.set_cons_zero, List.set_cons_succ] at M
      replace HM := Lib.hid M
      clear M
      have fM := HM.out.facts
      simp only [seeS, talkR_tag, rowR_tag] at fM
      have hE0 : Keeps NoB w0 w0.drew := (Keeps.refl _ _).drew
      refine wp_region_plan [(0, 0), (3, 1), (0, 2), (3, 3), (0, 4), (0, 5), (3, 6), (0, 7)] [] [] [] (ClsE w0) (by kernel_rfl) (by kernel_rfl) (by kernel_rfl) rfl rfl (ClsE.of hE0) (fun _ _ _ d _ h => by cases d <;> exact h) ?_; simp only [planL, List.getElem?_toArray, List.getElem?_cons_succ, List.getElem?_cons_zero]
      refine plan_pure rfl (fun K hK => quiet_run (v := ?_) (fun W _ => ?_) (hK _ ?_)); rotate_left; (go_simp <;> with_reducible rfl); clear hK K; simp only [nP]
      refine plan_exact rfl (fun K hK => quiet_runX (v := ?_) ?_ (hK _ ?_)); rotate_left; (go_simp <;> with_reducible rfl); clear hK K; simp only [nP]
      refine plan_pure rfl (fun K hK => quiet_run (v := ?_) (fun W _ => ?_) (hK _ ?_)); rotate_left; (go_simp <;> with_reducible rfl); clear hK K; simp only [nP]
      refine plan_exact rfl (fun K hK => quiet_runX (v := ?_) ?_ (hK _ ?_)); rotate_left; (go_simp <;> with_reducible rfl); clear hK K; simp only [nP]
      refine plan_pure rfl (fun K hK => quiet_run (v := ?_) (fun W _ => ?_) (hK _ ?_)); rotate_left; (go_simp <;> with_reducible rfl); clear hK K; simp only [nP]
      refine plan_pure rfl (fun K hK => quiet_run (v := ?_) (fun W _ => ?_) (hK _ ?_)); rotate_left; (go_simp <;> with_reducible rfl); clear hK K; simp only [nP]
      refine plan_exact rfl (fun K hK => quiet_runX (v := ?_) ?_ (hK _ ?_)); rotate_left; (go_simp <;> with_reducible rfl); clear hK K; simp only [nP]
      refine plan_pure rfl (fun K hK => quiet_run (v := ?_) (fun W _ => ?_) (hK _ ?_)); rotate_left; (go_simp <;> with_reducible rfl); clear hK K; simp only [nP]
      refine plan_nil ?_; simp only [tailL, List.filterMap_nil]
      go_wp2_with (first
        | ((with_reducible refine at_list ?_); first
          | ((with_reducible refine at_load 49 _ rfl ?_); refine mem_load_wide 49 _ rfl rfl rfl (by with_reducible repeat first | exact HM.out | exact ph | apply pt | apply Mem.drew | apply Mem.alloc | apply Mem.set | apply Mem.allocO | (simp only [World.size_alloc, World.size_setCell, World.size_drew]; rfl) | rfl) (by with_reducible repeat first | exact ph | apply pt) Tryd.underlying49 rfl (infoRJ.trans (congrArg some (Eq.symm (by first | rfl | exact HLEN.out | exact HLEN1.out | (simp only [List.length_set]; first | exact HLEN.out | exact HLEN1.out))))) ?_)
          | ((first
            | ((with_reducible refine at_store 49 _ _ rfl ?_); refine mem_store_wide 49 _ _ rfl rfl rfl rfl (by with_reducible repeat first | exact HM.out | exact ph | apply pt | apply Mem.drew | apply Mem.alloc | apply Mem.set | apply Mem.allocO | (simp only [World.size_alloc, World.size_setCell, World.size_drew]; rfl) | rfl) (by with_reducible repeat first | exact ph | apply pt) infoRJ (by first | rfl | exact HLEN.out | exact HLEN1.out | (simp only [List.length_set]; first | exact HLEN.out | exact HLEN1.out)) (by first | rfl | exact HLEN.out | exact HLEN1.out | (simp only [List.length_set]; first | exact HLEN.out | exact HLEN1.out)) (by (repeat refine one_set ?_ rfl _); first | exact HONE.out | exact HONE1.out) ?_; intro w9 M)
            | ((with_reducible refine at_box 49 _ rfl ?_); refine mem_box_wide 49 _ rfl rfl rfl (by with_reducible repeat first | exact HM.out | exact ph | apply pt | apply Mem.drew | apply Mem.alloc | apply Mem.set | apply Mem.allocO | (simp only [World.size_alloc, World.size_setCell, World.size_drew]; rfl) | rfl) ?_; intro w9 n9 M)
            | ((with_reducible refine at_alloc 49 rfl ?_); refine mem_alloc_wide 49 rfl rfl (zeroRJ _) (by with_reducible repeat first | exact HM.out | exact ph | apply pt | apply Mem.drew | apply Mem.alloc | apply Mem.set | apply Mem.allocO | (simp only [World.size_alloc, World.size_setCell, World.size_drew]; rfl) | rfl) ?_; intro w9 n9 M)); (try simp only [List.set_cons_zero, List.set_cons_succ] at M); replace HM := Lib.hid M; clear M; clear fM; have fM := HM.out.facts; simp only [seeS, talkR_tag, rowR_tag] at fM)))
      clear fM
      first | apply Mem.call | apply Mem.postD | apply Mem.stop | apply Mem.toUpd | apply Mem.list | apply Mem.code | apply Mem.post | apply Mem.postM
      · with_reducible repeat first | exact HM.out | exact ph | apply pt | apply Mem.drew | apply Mem.alloc | apply Mem.set | apply Mem.allocO | (simp only [World.size_alloc, World.size_setCell, World.size_drew]; rfl) | rfl
      intro w1 M
      try simp only [List.set_cons_zero, List.set_cons_succ] at M
      replace HM := Lib.hid M
      clear M
      obtain ⟨g, o, rfl, hg, d0, d1, d2, d3⟩ := ln_x (HV.out.ext HM.out.extTo) k HK.out
      rw [HXE.out] at d0 d1 d2 d3
      have fM := HM.out.facts
      simp only [seeS, talkR_tag, rowR_tag] at fM
      have hE0 : Keeps NoB w1 w1.drew := (Keeps.refl _ _).drew
      refine wp_region_plan [(0, 0), (0, 1), (3, 2), (0, 3), (3, 4), (0, 5), (0, 6), (3, 7), (0, 8), (3, 9), (0, 10)] [] [] [] (ClsE w1) (by kernel_rfl) (by kernel_rfl) (by kernel_rfl) rfl rfl (ClsE.of hE0) (fun _ _ _ d _ h => by cases d <;> exact h) ?_; simp only [planL, List.getElem?_toArray, List.getElem?_cons_succ, List.getElem?_cons_zero]
      refine plan_pure rfl (fun K hK => quiet_run (v := ?_) (fun W _ => ?_) (hK _ ?_)); rotate_left; (go_simp <;> with_reducible rfl); clear hK K; simp only [nP]
      refine plan_pure rfl (fun K hK => quiet_run (v := ?_) (fun W _ => ?_) (hK _ ?_)); rotate_left; (go_simp <;> with_reducible rfl); clear hK K; simp only [nP]
      refine plan_exact rfl (fun K hK => quiet_runX (v := ?_) ?_ (hK _ ?_)); rotate_left; (go_simp <;> with_reducible rfl); clear hK K; simp only [nP]
      refine plan_pure rfl (fun K hK => quiet_run (v := ?_) (fun W _ => ?_) (hK _ ?_)); rotate_left; (go_simp <;> with_reducible rfl); clear hK K; simp only [nP]
      refine plan_exact rfl (fun K hK => quiet_runX (v := ?_) ?_ (hK _ ?_)); rotate_left; (go_simp <;> with_reducible rfl); clear hK K; simp only [nP]
      refine plan_pure rfl (fun K hK => quiet_run (v := ?_) (fun W _ => ?_) (hK _ ?_)); rotate_left; (go_simp <;> with_reducible rfl); clear hK K; simp only [nP]
      refine plan_pure rfl (fun K hK => quiet_run (v := ?_) (fun W _ => ?_) (hK _ ?_)); rotate_left; (go_simp <;> with_reducible rfl); clear hK K; simp only [nP]
      refine plan_exact rfl (fun K hK => quiet_runX (v := ?_) ?_ (hK _ ?_)); rotate_left; (go_simp <;> with_reducible rfl); clear hK K; simp only [nP]
      refine plan_pure rfl (fun K hK => quiet_run (v := ?_) (fun W _ => ?_) (hK _ ?_)); rotate_left; (go_simp <;> with_reducible rfl); clear hK K; simp only [nP]
      refine plan_exact rfl (fun K hK => quiet_runX (v := ?_) ?_ (hK _ ?_)); rotate_left; (go_simp <;> with_reducible rfl); clear hK K; simp only [nP]
      refine plan_pure rfl (fun K hK => quiet_run (v := ?_) (fun W _ => ?_) (hK _ ?_)); rotate_left; (go_simp <;> with_reducible rfl); clear hK K; simp only [nP]
      refine plan_nil ?_; simp only [tailL, List.filterMap_nil]
      go_wp2_with (first
        | ((with_reducible refine at_list ?_); first
          | ((with_reducible refine at_load 49 _ rfl ?_); refine mem_load_wide 49 _ rfl rfl rfl (by with_reducible repeat first | exact HM.out | exact ph | apply pt | apply Mem.drew | apply Mem.alloc | apply Mem.set | apply Mem.allocO | (simp only [World.size_alloc, World.size_setCell, World.size_drew]; rfl) | rfl) (by with_reducible repeat first | exact ph | apply pt) Tryd.underlying49 rfl (infoRJ.trans (congrArg some (Eq.symm (by first | rfl | exact HLEN.out | exact HLEN1.out | (simp only [List.length_set]; first | exact HLEN.out | exact HLEN1.out))))) ?_)
          | ((first
            | ((with_reducible refine at_store 49 _ _ rfl ?_); refine mem_store_wide 49 _ _ rfl rfl rfl rfl (by with_reducible repeat first | exact HM.out | exact ph | apply pt | apply Mem.drew | apply Mem.alloc | apply Mem.set | apply Mem.allocO | (simp only [World.size_alloc, World.size_setCell, World.size_drew]; rfl) | rfl) (by with_reducible repeat first | exact ph | apply pt) infoRJ (by first | rfl | exact HLEN.out | exact HLEN1.out | (simp only [List.length_set]; first | exact HLEN.out | exact HLEN1.out)) (by first | rfl | exact HLEN.out | exact HLEN1.out | (simp only [List.length_set]; first | exact HLEN.out | exact HLEN1.out)) (by (repeat refine one_set ?_ rfl _); first | exact HONE.out | exact HONE1.out) ?_; intro w9 M)
            | ((with_reducible refine at_box 49 _ rfl ?_); refine mem_box_wide 49 _ rfl rfl rfl (by with_reducible repeat first | exact HM.out | exact ph | apply pt | apply Mem.drew | apply Mem.alloc | apply Mem.set | apply Mem.allocO | (simp only [World.size_alloc, World.size_setCell, World.size_drew]; rfl) | rfl) ?_; intro w9 n9 M)
            | ((with_reducible refine at_alloc 49 rfl ?_); refine mem_alloc_wide 49 rfl rfl (zeroRJ _) (by with_reducible repeat first | exact HM.out | exact ph | apply pt | apply Mem.drew | apply Mem.alloc | apply Mem.set | apply Mem.allocO | (simp only [World.size_alloc, World.size_setCell, World.size_drew]; rfl) | rfl) ?_; intro w9 n9 M)); (try simp only [List.set_cons_zero, List.set_cons_succ] at M); replace HM := Lib.hid M; clear M; clear fM; have fM := HM.out.facts; simp only [seeS, talkR_tag, rowR_tag] at fM)))
      clear fM
      refine bodyPost_ret (results_ct Tryd.results25 _ rfl (loadVar_wide 49 (by with_reducible repeat first | exact HM.out | exact ph | apply pt | apply Mem.drew | apply Mem.alloc | apply Mem.set | apply Mem.allocO | (simp only [World.size_alloc, World.size_setCell, World.size_drew]; rfl) | rfl) (by with_reducible repeat first | exact ph | apply pt) Tryd.underlying49 rfl (infoRJ.trans (congrArg some (Eq.symm (by first | rfl | exact HLEN.out | exact HLEN1.out | (simp only [List.length_set]; first | exact HLEN.out | exact HLEN1.out))))))) rfl ?_
      refine ⟨_, rfl, ((HR.out.setTold p HP.out _).ext ?_).mono (fun k hk => .inl hk), ?_⟩ <;> (apply Mem.extTo; with_reducible repeat first | exact HM.out | exact ph | apply pt | apply Mem.drew | apply Mem.alloc | apply Mem.set | apply Mem.allocO | (simp only [World.size_alloc, World.size_setCell, World.size_drew]; rfl) | rfl)
    · rw [decide_eq_false hd] at hb hq1
      have hq : lineR J p k e = (J, 400) := by unfold lineR; rw [if_neg (fun h => h HN.out.symm), if_pos gk, if_neg (by rw [hb]; exact Bool.noConfusion)]
      rw [hq]
      clear hq hb hd
      go_enter Tryd.func25, Tryd.ntmps25
      have fM := HM.out.facts
      simp only [seeS, talkR_tag, rowR_tag] at fM
      go_wp2_with (first
        | ((with_reducible refine at_list ?_); first
          | ((with_reducible refine at_load 49 _ rfl ?_); refine mem_load_wide 49 _ rfl rfl rfl (by with_reducible repeat first | exact HM.out | exact ph | apply pt | apply Mem.drew | apply Mem.alloc | apply Mem.set | apply Mem.allocO | (simp only [World.size_alloc, World.size_setCell, World.size_drew]; rfl) | rfl) (by with_reducible repeat first | exact ph | apply pt) Tryd.underlying49 rfl (infoRJ.trans (congrArg some (Eq.symm (by first | rfl | exact HLEN.out | exact HLEN1.out | (simp only [List.length_set]; first | exact HLEN.out | exact HLEN1.out))))) ?_)
          | ((first
            | ((with_reducible refine at_store 49 _ _ rfl ?_); refine mem_store_wide 49 _ _ rfl rfl rfl rfl (by with_reducible repeat first | exact HM.out | exact ph | apply pt | apply Mem.drew | apply Mem.alloc | apply Mem.set | apply Mem.allocO | (simp only [World.size_alloc, World.size_setCell, World.size_drew]; rfl) | rfl) (by with_reducible repeat first | exact ph | apply pt) infoRJ (by first | rfl | exact HLEN.out | exact HLEN1.out | (simp only [List.length_set]; first | exact HLEN.out | exact HLEN1.out)) (by first | rfl | exact HLEN.out | exact HLEN1.out | (simp only [List.length_set]; first | exact HLEN.out | exact HLEN1.out)) (by (repeat refine one_set ?_ rfl _); first | exact HONE.out | exact HONE1.out) ?_; intro w9 M)
            | ((with_reducible refine at_box 49 _ rfl ?_); refine mem_box_wide 49 _ rfl rfl rfl (by with_reducible repeat first | exact HM.out | exact ph | apply pt | apply Mem.drew | apply Mem.alloc | apply Mem.set | apply Mem.allocO | (simp only [World.size_alloc, World.size_setCell, World.size_drew]; rfl) | rfl) ?_; intro w9 n9 M)
            | ((with_reducible refine at_alloc 49 rfl ?_); refine mem_alloc_wide 49 rfl rfl (zeroRJ _) (by with_reducible repeat first | exact HM.out | exact ph | apply pt | apply Mem.drew | apply Mem.alloc | apply Mem.set | apply Mem.allocO | (simp only [World.size_alloc, World.size_setCell, World.size_drew]; rfl) | rfl) ?_; intro w9 n9 M)); (try simp only [List.set_cons_zero, List.set_cons_succ] at M); replace HM := Lib.hid M; clear M; clear fM; have fM := HM.out.facts; simp only [seeS, talkR_tag, rowR_tag] at fM)))
      all_goals clear fM
      first | apply Mem.call | apply Mem.postD | apply Mem.stop | apply Mem.toUpd | apply Mem.list | apply Mem.code | apply Mem.post | apply Mem.postM
      · with_reducible repeat first | exact HM.out | exact ph | apply pt | apply Mem.drew | apply Mem.alloc | apply Mem.set | apply Mem.allocO | (simp only [World.size_alloc, World.size_setCell, World.size_drew]; rfl) | rfl
      intro w0 M
      try simp only [List.set_cons_zero, List.set_cons_succ] at M
      replace HM := Lib.hid M
      clear M
      have fM := HM.out.facts
      simp only [seeS, talkR_tag, rowR_tag] at fM
      have hE0 : Keeps NoB w0 w0.drew := (Keeps.refl _ _).drew
      refine wp_region_plan [(0, 0), (3, 1), (0, 2), (3, 3), (0, 4), (0, 5), (3, 6), (0, 7)] [] [] [] (ClsE w0) (by kernel_rfl) (by kernel_rfl) (by kernel_rfl) rfl rfl (ClsE.of hE0) (fun _ _ _ d _ h => by cases d <;> exact h) ?_; simp only [planL, List.getElem?_toArray, List.getElem?_cons_succ, List.getElem?_cons_zero]
      refine plan_pure rfl (fun K hK => quiet_run (v := ?_) (fun W _ => ?_) (hK _ ?_)); rotate_left; (go_simp <;> with_reducible rfl); clear hK K; simp only [nP]
      refine plan_exact rfl (fun K hK => quiet_runX (v := ?_) ?_ (hK _ ?_)); rotate_left; (go_simp <;> with_reducible rfl); clear hK K; simp only [nP]
      refine plan_pure rfl (fun K hK => quiet_run (v := ?_) (fun W _ => ?_) (hK _ ?_)); rotate_left; (go_simp <;> with_reducible rfl); clear hK K; simp only [nP]
      refine plan_exact rfl (fun K hK => quiet_runX (v := ?_) ?_ (hK _ ?_)); rotate_left; (go_simp <;> with_reducible rfl); clear hK K; simp only [nP]
      refine plan_pure rfl (fun K hK => quiet_run (v := ?_) (fun W _ => ?_) (hK _ ?_)); rotate_left; (go_simp <;> with_reducible rfl); clear hK K; simp only [nP]
      refine plan_pure rfl (fun K hK => quiet_run (v := ?_) (fun W _ => ?_) (hK _ ?_)); rotate_left; (go_simp <;> with_reducible rfl); clear hK K; simp only [nP]
      refine plan_exact rfl (fun K hK => quiet_runX (v := ?_) ?_ (hK _ ?_)); rotate_left; (go_simp <;> with_reducible rfl); clear hK K; simp only [nP]
      refine plan_pure rfl (fun K hK => quiet_run (v := ?_) (fun W _ => ?_) (hK _ ?_)); rotate_left; (go_simp <;> with_reducible rfl); clear hK K; simp only [nP]
      refine plan_nil ?_; simp only [tailL, List.filterMap_nil]
      go_wp2_with (first
        | ((with_reducible refine at_list ?_); first
          | ((with_reducible refine at_load 49 _ rfl ?_); refine mem_load_wide 49 _ rfl rfl rfl (by with_reducible repeat first | exact HM.out | exact ph | apply pt | apply Mem.drew | apply Mem.alloc | apply Mem.set | apply Mem.allocO | (simp only [World.size_alloc, World.size_setCell, World.size_drew]; rfl) | rfl) (by with_reducible repeat first | exact ph | apply pt) Tryd.underlying49 rfl (infoRJ.trans (congrArg some (Eq.symm (by first | rfl | exact HLEN.out | exact HLEN1.out | (simp only [List.length_set]; first | exact HLEN.out | exact HLEN1.out))))) ?_)
          | ((first
            | ((with_reducible refine at_store 49 _ _ rfl ?_); refine mem_store_wide 49 _ _ rfl rfl rfl rfl (by with_reducible repeat first | exact HM.out | exact ph | apply pt | apply Mem.drew | apply Mem.alloc | apply Mem.set | apply Mem.allocO | (simp only [World.size_alloc, World.size_setCell, World.size_drew]; rfl) | rfl) (by with_reducible repeat first | exact ph | apply pt) infoRJ (by first | rfl | exact HLEN.out | exact HLEN1.out | (simp only [List.length_set]; first | exact HLEN.out | exact HLEN1.out)) (by first | rfl | exact HLEN.out | exact HLEN1.out | (simp only [List.length_set]; first | exact HLEN.out | exact HLEN1.out)) (by (repeat refine one_set ?_ rfl _); first | exact HONE.out | exact HONE1.out) ?_; intro w9 M)
            | ((with_reducible refine at_box 49 _ rfl ?_); refine mem_box_wide 49 _ rfl rfl rfl (by with_reducible repeat first | exact HM.out | exact ph | apply pt | apply Mem.drew | apply Mem.alloc | apply Mem.set | apply Mem.allocO | (simp only [World.size_alloc, World.size_setCell, World.size_drew]; rfl) | rfl) ?_; intro w9 n9 M)
            | ((with_reducible refine at_alloc 49 rfl ?_); refine mem_alloc_wide 49 rfl rfl (zeroRJ _) (by with_reducible repeat first | exact HM.out | exact ph | apply pt | apply Mem.drew | apply Mem.alloc | apply Mem.set | apply Mem.allocO | (simp only [World.size_alloc, World.size_setCell, World.size_drew]; rfl) | rfl) ?_; intro w9 n9 M)); (try simp only [List.set_cons_zero, List.set_cons_succ] at M); replace HM := Lib.hid M; clear M; clear fM; have fM := HM.out.facts; simp only [seeS, talkR_tag, rowR_tag] at fM)))
      clear fM
      first | apply Mem.call | apply Mem.postD | apply Mem.stop | apply Mem.toUpd | apply Mem.list | apply Mem.code | apply Mem.post | apply Mem.postM
      · with_reducible repeat first | exact HM.out | exact ph | apply pt | apply Mem.drew | apply Mem.alloc | apply Mem.set | apply Mem.allocO | (simp only [World.size_alloc, World.size_setCell, World.size_drew]; rfl) | rfl
      intro w1 M
      try simp only [List.set_cons_zero, List.set_cons_succ] at M
      replace HM := Lib.hid M
      clear M
      obtain ⟨g, o, rfl, hg, d0, d1, d2, d3⟩ := ln_x (HV.out.ext HM.out.extTo) k HK.out
      rw [HXE.out] at d0 d1 d2 d3
      have fM := HM.out.facts
      simp only [seeS, talkR_tag, rowR_tag] at fM
      have hE0 : Keeps NoB w1 w1.drew := (Keeps.refl _ _).drew
      refine wp_region_plan [(0, 0), (0, 1), (3, 2), (0, 3), (3, 4), (0, 5), (0, 6), (3, 7), (0, 8), (3, 9), (0, 10)] [] [] [] (ClsE w1) (by kernel_rfl) (by kernel_rfl) (by kernel_rfl) rfl rfl (ClsE.of hE0) (fun _ _ _ d _ h => by cases d <;> exact h) ?_; simp only [planL, List.getElem?_toArray, List.getElem?_cons_succ, List.getElem?_cons_zero]
      refine plan_pure rfl (fun K hK => quiet_run (v := ?_) (fun W _ => ?_) (hK _ ?_)); rotate_left; (go_simp <;> with_reducible rfl); clear hK K; simp only [nP]
      refine plan_pure rfl (fun K hK => quiet_run (v := ?_) (fun W _ => ?_) (hK _ ?_)); rotate_left; (go_simp <;> with_reducible rfl); clear hK K; simp only [nP]
      refine plan_exact rfl (fun K hK => quiet_runX (v := ?_) ?_ (hK _ ?_)); rotate_left; (go_simp <;> with_reducible rfl); clear hK K; simp only [nP]
      refine plan_pure rfl (fun K hK => quiet_run (v := ?_) (fun W _ => ?_) (hK _ ?_)); rotate_left; (go_simp <;> with_reducible rfl); clear hK K; simp only [nP]
      refine plan_exact rfl (fun K hK => quiet_runX (v := ?_) ?_ (hK _ ?_)); rotate_left; (go_simp <;> with_reducible rfl); clear hK K; simp only [nP]
      refine plan_pure rfl (fun K hK => quiet_run (v := ?_) (fun W _ => ?_) (hK _ ?_)); rotate_left; (go_simp <;> with_reducible rfl); clear hK K; simp only [nP]
      refine plan_pure rfl (fun K hK => quiet_run (v := ?_) (fun W _ => ?_) (hK _ ?_)); rotate_left; (go_simp <;> with_reducible rfl); clear hK K; simp only [nP]
      refine plan_exact rfl (fun K hK => quiet_runX (v := ?_) ?_ (hK _ ?_)); rotate_left; (go_simp <;> with_reducible rfl); clear hK K; simp only [nP]
      refine plan_pure rfl (fun K hK => quiet_run (v := ?_) (fun W _ => ?_) (hK _ ?_)); rotate_left; (go_simp <;> with_reducible rfl); clear hK K; simp only [nP]
      refine plan_exact rfl (fun K hK => quiet_runX (v := ?_) ?_ (hK _ ?_)); rotate_left; (go_simp <;> with_reducible rfl); clear hK K; simp only [nP]
      refine plan_pure rfl (fun K hK => quiet_run (v := ?_) (fun W _ => ?_) (hK _ ?_)); rotate_left; (go_simp <;> with_reducible rfl); clear hK K; simp only [nP]
      refine plan_nil ?_; simp only [tailL, List.filterMap_nil]
      go_wp2_with (first
        | ((with_reducible refine at_list ?_); first
          | ((with_reducible refine at_load 49 _ rfl ?_); refine mem_load_wide 49 _ rfl rfl rfl (by with_reducible repeat first | exact HM.out | exact ph | apply pt | apply Mem.drew | apply Mem.alloc | apply Mem.set | apply Mem.allocO | (simp only [World.size_alloc, World.size_setCell, World.size_drew]; rfl) | rfl) (by with_reducible repeat first | exact ph | apply pt) Tryd.underlying49 rfl (infoRJ.trans (congrArg some (Eq.symm (by first | rfl | exact HLEN.out | exact HLEN1.out | (simp only [List.length_set]; first | exact HLEN.out | exact HLEN1.out))))) ?_)
          | ((first
            | ((with_reducible refine at_store 49 _ _ rfl ?_); refine mem_store_wide 49 _ _ rfl rfl rfl rfl (by with_reducible repeat first | exact HM.out | exact ph | apply pt | apply Mem.drew | apply Mem.alloc | apply Mem.set | apply Mem.allocO | (simp only [World.size_alloc, World.size_setCell, World.size_drew]; rfl) | rfl) (by with_reducible repeat first | exact ph | apply pt) infoRJ (by first | rfl | exact HLEN.out | exact HLEN1.out | (simp only [List.length_set]; first | exact HLEN.out | exact HLEN1.out)) (by first | rfl | exact HLEN.out | exact HLEN1.out | (simp only [List.length_set]; first | exact HLEN.out | exact HLEN1.out)) (by (repeat refine one_set ?_ rfl _); first | exact HONE.out | exact HONE1.out) ?_; intro w9 M)
            | ((with_reducible refine at_box 49 _ rfl ?_); refine mem_box_wide 49 _ rfl rfl rfl (by with_reducible repeat first | exact HM.out | exact ph | apply pt | apply Mem.drew | apply Mem.alloc | apply Mem.set | apply Mem.allocO | (simp only [World.size_alloc, World.size_setCell, World.size_drew]; rfl) | rfl) ?_; intro w9 n9 M)
            | ((with_reducible refine at_alloc 49 rfl ?_); refine mem_alloc_wide 49 rfl rfl (zeroRJ _) (by with_reducible repeat first | exact HM.out | exact ph | apply pt | apply Mem.drew | apply Mem.alloc | apply Mem.set | apply Mem.allocO | (simp only [World.size_alloc, World.size_setCell, World.size_drew]; rfl) | rfl) ?_; intro w9 n9 M)); (try simp only [List.set_cons_zero, List.set_cons_succ] at M); replace HM := Lib.hid M; clear M; clear fM; have fM := HM.out.facts; simp only [seeS, talkR_tag, rowR_tag] at fM)))
      clear fM
      refine bodyPost_ret (results_ct Tryd.results25 _ rfl (loadVar_wide 49 (by with_reducible repeat first | exact HM.out | exact ph | apply pt | apply Mem.drew | apply Mem.alloc | apply Mem.set | apply Mem.allocO | (simp only [World.size_alloc, World.size_setCell, World.size_drew]; rfl) | rfl) (by with_reducible repeat first | exact ph | apply pt) Tryd.underlying49 rfl (infoRJ.trans (congrArg some (Eq.symm (by first | rfl | exact HLEN.out | exact HLEN1.out | (simp only [List.length_set]; first | exact HLEN.out | exact HLEN1.out))))))) rfl ?_
      refine ⟨_, rfl, ((HR.out).ext ?_).mono (fun k hk => .inl hk), ?_⟩ <;> (apply Mem.extTo; with_reducible repeat first | exact HM.out | exact ph | apply pt | apply Mem.drew | apply Mem.alloc | apply Mem.set | apply Mem.allocO | (simp only [World.size_alloc, World.size_setCell, World.size_drew]; rfl) | rfl)
  have gk : ¬ (k : Int) < (J.T.l.length : Int) := by omega
  have HD := Lib.hid (show ¬ ¬ (k : Int) = J.told.getD p 0 from fun h => h HN.out.symm)
  have HG := Lib.hid gk
  clear hk
  go_enter Tryd.func25, Tryd.ntmps25
  have fM := HM.out.facts
  simp only [seeS, talkR_tag, rowR_tag] at fM
  go_wp2_with (first
    | ((with_reducible refine at_list ?_); first
      | ((with_reducible refine at_load 49 _ rfl ?_); refine mem_load_wide 49 _ rfl rfl rfl (by with_reducible repeat first | exact HM.out | exact ph | apply pt | apply Mem.drew | apply Mem.alloc | apply Mem.set | apply Mem.allocO | (simp only [World.size_alloc, World.size_setCell, World.size_drew]; rfl) | rfl) (by with_reducible repeat first | exact ph | apply pt) Tryd.underlying49 rfl (infoRJ.trans (congrArg some (Eq.symm (by first | rfl | exact HLEN.out | exact HLEN1.out | (simp only [List.length_set]; first | exact HLEN.out | exact HLEN1.out))))) ?_)
      | ((first
        | ((with_reducible refine at_store 49 _ _ rfl ?_); refine mem_store_wide 49 _ _ rfl rfl rfl rfl (by with_reducible repeat first | exact HM.out | exact ph | apply pt | apply Mem.drew | apply Mem.alloc | apply Mem.set | apply Mem.allocO | (simp only [World.size_alloc, World.size_setCell, World.size_drew]; rfl) | rfl) (by with_reducible repeat first | exact ph | apply pt) infoRJ (by first | rfl | exact HLEN.out | exact HLEN1.out | (simp only [List.length_set]; first | exact HLEN.out | exact HLEN1.out)) (by first | rfl | exact HLEN.out | exact HLEN1.out | (simp only [List.length_set]; first | exact HLEN.out | exact HLEN1.out)) (by (repeat refine one_set ?_ rfl _); first | exact HONE.out | exact HONE1.out) ?_; intro w9 M)
        | ((with_reducible refine at_box 49 _ rfl ?_); refine mem_box_wide 49 _ rfl rfl rfl (by with_reducible repeat first | exact HM.out | exact ph | apply pt | apply Mem.drew | apply Mem.alloc | apply Mem.set | apply Mem.allocO | (simp only [World.size_alloc, World.size_setCell, World.size_drew]; rfl) | rfl) ?_; intro w9 n9 M)
        | ((with_reducible refine at_alloc 49 rfl ?_); refine mem_alloc_wide 49 rfl rfl (zeroRJ _) (by with_reducible repeat first | exact HM.out | exact ph | apply pt | apply Mem.drew | apply Mem.alloc | apply Mem.set | apply Mem.allocO | (simp only [World.size_alloc, World.size_setCell, World.size_drew]; rfl) | rfl) ?_; intro w9 n9 M)); (try simp only [List.set_cons_zero, List.set_cons_succ] at M); replace HM := Lib.hid M; clear M; clear fM; have fM := HM.out.facts; simp only [seeS, talkR_tag, rowR_tag] at fM)))
  all_goals clear fM
  first | apply Mem.call | apply Mem.postD | apply Mem.stop | apply Mem.toUpd | apply Mem.list | apply Mem.code | apply Mem.post | apply Mem.postM
  · with_reducible repeat first | exact HM.out | exact ph | apply pt | apply Mem.drew | apply Mem.alloc | apply Mem.set | apply Mem.allocO | (simp only [World.size_alloc, World.size_setCell, World.size_drew]; rfl) | rfl
  intro w0 M
  try simp only [List.set_cons_zero, List.set_cons_succ] at M
  replace HM := Lib.hid M
  clear M
  have fM := HM.out.facts
  simp only [seeS, talkR_tag, rowR_tag] at fM
  have hE0 : Keeps NoB w0 w0.drew := (Keeps.refl _ _).drew
  refine wp_region_plan [(0, 0), (3, 1), (0, 2), (3, 3), (0, 4), (0, 5), (3, 6), (0, 7)] [] [] [] (ClsE w0) (by kernel_rfl) (by kernel_rfl) (by kernel_rfl) rfl rfl (ClsE.of hE0) (fun _ _ _ d _ h => by cases d <;> exact h) ?_; simp only [planL, List.getElem?_toArray, List.getElem?_cons_succ, List.getElem?_cons_zero]
  refine plan_pure rfl (fun K hK => quiet_run (v := ?_) (fun W _ => ?_) (hK _ ?_)); rotate_left; (go_simp <;> with_reducible rfl); clear hK K; simp only [nP]
  refine plan_exact rfl (fun K hK => quiet_runX (v := ?_) ?_ (hK _ ?_)); rotate_left; (go_simp <;> with_reducible rfl); clear hK K; simp only [nP]
  refine plan_pure rfl (fun K hK => quiet_run (v := ?_) (fun W _ => ?_) (hK _ ?_)); rotate_left; (go_simp <;> with_reducible rfl); clear hK K; simp only [nP]
  refine plan_exact rfl (fun K hK => quiet_runX (v := ?_) ?_ (hK _ ?_)); rotate_left; (go_simp <;> with_reducible rfl); clear hK K; simp only [nP]
  refine plan_pure rfl (fun K hK => quiet_run (v := ?_) (fun W _ => ?_) (hK _ ?_)); rotate_left; (go_simp <;> with_reducible rfl); clear hK K; simp only [nP]
  refine plan_pure rfl (fun K hK => quiet_run (v := ?_) (fun W _ => ?_) (hK _ ?_)); rotate_left; (go_simp <;> with_reducible rfl); clear hK K; simp only [nP]
  refine plan_exact rfl (fun K hK => quiet_runX (v := ?_) ?_ (hK _ ?_)); rotate_left; (go_simp <;> with_reducible rfl); clear hK K; simp only [nP]
  refine plan_pure rfl (fun K hK => quiet_run (v := ?_) (fun W _ => ?_) (hK _ ?_)); rotate_left; (go_simp <;> with_reducible rfl); clear hK K; simp only [nP]
  refine plan_nil ?_; simp only [tailL, List.filterMap_nil]
  go_wp2_with (first
    | ((with_reducible refine at_list ?_); first
      | ((with_reducible refine at_load 49 _ rfl ?_); refine mem_load_wide 49 _ rfl rfl rfl (by with_reducible repeat first | exact HM.out | exact ph | apply pt | apply Mem.drew | apply Mem.alloc | apply Mem.set | apply Mem.allocO | (simp only [World.size_alloc, World.size_setCell, World.size_drew]; rfl) | rfl) (by with_reducible repeat first | exact ph | apply pt) Tryd.underlying49 rfl (infoRJ.trans (congrArg some (Eq.symm (by first | rfl | exact HLEN.out | exact HLEN1.out | (simp only [List.length_set]; first | exact HLEN.out | exact HLEN1.out))))) ?_)
      | ((first
        | ((with_reducible refine at_store 49 _ _ rfl ?_); refine mem_store_wide 49 _ _ rfl rfl rfl rfl (by with_reducible repeat first | exact HM.out | exact ph | apply pt | apply Mem.drew | apply Mem.alloc | apply Mem.set | apply Mem.allocO | (simp only [World.size_alloc, World.size_setCell, World.size_drew]; rfl) | rfl) (by with_reducible repeat first | exact ph | apply pt) infoRJ (by first | rfl | exact HLEN.out | exact HLEN1.out | (simp only [List.length_set]; first | exact HLEN.out | exact HLEN1.out)) (by first | rfl | exact HLEN.out | exact HLEN1.out | (simp only [List.length_set]; first | exact HLEN.out | exact HLEN1.out)) (by (repeat refine one_set ?_ rfl _); first | exact HONE.out | exact HONE1.out) ?_; intro w9 M)
        | ((with_reducible refine at_box 49 _ rfl ?_); refine mem_box_wide 49 _ rfl rfl rfl (by with_reducible repeat first | exact HM.out | exact ph | apply pt | apply Mem.drew | apply Mem.alloc | apply Mem.set | apply Mem.allocO | (simp only [World.size_alloc, World.size_setCell, World.size_drew]; rfl) | rfl) ?_; intro w9 n9 M)
        | ((with_reducible refine at_alloc 49 rfl ?_); refine mem_alloc_wide 49 rfl rfl (zeroRJ _) (by with_reducible repeat first | exact HM.out | exact ph | apply pt | apply Mem.drew | apply Mem.alloc | apply Mem.set | apply Mem.allocO | (simp only [World.size_alloc, World.size_setCell, World.size_drew]; rfl) | rfl) ?_; intro w9 n9 M)); (try simp only [List.set_cons_zero, List.set_cons_succ] at M); replace HM := Lib.hid M; clear M; clear fM; have fM := HM.out.facts; simp only [seeS, talkR_tag, rowR_tag] at fM)))
  clear fM
  first | apply Mem.call | apply Mem.postD | apply Mem.stop | apply Mem.toUpd | apply Mem.list | apply Mem.code | apply Mem.post | apply Mem.postM
  · with_reducible repeat first | exact HM.out | exact ph | apply pt | apply Mem.drew | apply Mem.alloc | apply Mem.set | apply Mem.allocO | (simp only [World.size_alloc, World.size_setCell, World.size_drew]; rfl) | rfl
  intro w1 M
  try simp only [List.set_cons_zero, List.set_cons_succ] at M
  replace HM := Lib.hid M
  clear M
  rw [← HEV.out]
  refine (rput_any w1 J cs e (HR.out.ext HM.out.extTo) HX.out.2.2.2.2.1).mono ?_
  rintro r w2 ⟨rfl, hE⟩
  replace HM := Lib.hid (HM.out.ext hE)
  clear hE
  by_cases hm : e ∈ J.put
  case neg =>
    have hq : lineR J p k e = (J, 401) := by unfold lineR; rw [if_neg HD.out, if_neg (show ¬ (k : Int) < (J.T.l.length : Int) by have := HG.out; omega), if_pos hm]
    rw [decide_eq_false hm]
    have HQ := Lib.hid hq
    clear hq hm
    have fM := HM.out.facts
    simp only [seeS, talkR_tag, rowR_tag] at fM
    go_wp2_with (first
      | ((with_reducible refine at_list ?_); first
        | ((with_reducible refine at_load 49 _ rfl ?_); refine mem_load_wide 49 _ rfl rfl rfl (by with_reducible repeat first | exact HM.out | exact ph | apply pt | apply Mem.drew | apply Mem.alloc | apply Mem.set | apply Mem.allocO | (simp only [World.size_alloc, World.size_setCell, World.size_drew]; rfl) | rfl) (by with_reducible repeat first | exact ph | apply pt) Tryd.underlying49 rfl (infoRJ.trans (congrArg some (Eq.symm (by first | rfl | exact HLEN.out | exact HLEN1.out | (simp only [List.length_set]; first | exact HLEN.out | exact HLEN1.out))))) ?_)
        | ((first
          | ((with_reducible refine at_store 49 _ _ rfl ?_); refine mem_store_wide 49 _ _ rfl rfl rfl rfl (by with_reducible repeat first | exact HM.out | exact ph | apply pt | apply Mem.drew | apply Mem.alloc | apply Mem.set | apply Mem.allocO | (simp only [World.size_alloc, World.size_setCell, World.size_drew]; rfl) | rfl) (by with_reducible repeat first | exact ph | apply pt) infoRJ (by first | rfl | exact HLEN.out | exact HLEN1.out | (simp only [List.length_set]; first | exact HLEN.out | exact HLEN1.out)) (by first | rfl | exact HLEN.out | exact HLEN1.out | (simp only [List.length_set]; first | exact HLEN.out | exact HLEN1.out)) (by (repeat refine one_set ?_ rfl _); first | exact HONE.out | exact HONE1.out) ?_; intro w9 M)
          | ((with_reducible refine at_box 49 _ rfl ?_); refine mem_box_wide 49 _ rfl rfl rfl (by with_reducible repeat first | exact HM.out | exact ph | apply pt | apply Mem.drew | apply Mem.alloc | apply Mem.set | apply Mem.allocO | (simp only [World.size_alloc, World.size_setCell, World.size_drew]; rfl) | rfl) ?_; intro w9 n9 M)
          | ((with_reducible refine at_alloc 49 rfl ?_); refine mem_alloc_wide 49 rfl rfl (zeroRJ _) (by with_reducible repeat first | exact HM.out | exact ph | apply pt | apply Mem.drew | apply Mem.alloc | apply Mem.set | apply Mem.allocO | (simp only [World.size_alloc, World.size_setCell, World.size_drew]; rfl) | rfl) ?_; intro w9 n9 M)); (try simp only [List.set_cons_zero, List.set_cons_succ] at M); replace HM := Lib.hid M; clear M; clear fM; have fM := HM.out.facts; simp only [seeS, talkR_tag, rowR_tag] at fM)))
    all_goals clear fM
    refine bodyPost_ret (results_ct Tryd.results25 _ rfl (loadVar_wide 49 (by with_reducible repeat first | exact HM.out | exact ph | apply pt | apply Mem.drew | apply Mem.alloc | apply Mem.set | apply Mem.allocO | (simp only [World.size_alloc, World.size_setCell, World.size_drew]; rfl) | rfl) (by with_reducible repeat first | exact ph | apply pt) Tryd.underlying49 rfl (infoRJ.trans (congrArg some (Eq.symm (by first | rfl | exact HLEN.out | exact HLEN1.out | (simp only [List.length_set]; first | exact HLEN.out | exact HLEN1.out))))))) rfl ?_
    rw [HQ.out]
    refine ⟨_, rfl, ((HR.out).ext ?_).mono (fun k hk => .inl hk), ?_⟩ <;> (apply Mem.extTo; with_reducible repeat first | exact HM.out | exact ph | apply pt | apply Mem.drew | apply Mem.alloc | apply Mem.set | apply Mem.allocO | (simp only [World.size_alloc, World.size_setCell, World.size_drew]; rfl) | rfl)
  rw [decide_eq_true hm]
  have HMM := Lib.hid hm
  have hq0 : lineR J p k e = if J.T.slot < 4096 ∧ (enB e && (countsR J.T e).2) = true then ({ J with T := J.T.put e, told := J.told.set p ((k : Int) + 1) }, 0) else (J, 402) := by
    unfold lineR; rw [if_neg HD.out, if_neg (show ¬ (k : Int) < (J.T.l.length : Int) by have := HG.out; omega), if_neg (fun h => h hm)]
  have HQ0 := Lib.hid hq0
  clear hm hq0
  by_cases h4 : J.T.slot < 4096
  case neg =>
    have hq : ¬ (J.T.slot < 4096 ∧ (enB e && (countsR J.T e).2) = true) := fun h => h4 h.1
    have HQ := Lib.hid (HQ0.out.trans (if_neg hq))
    clear hq
    have fM := HM.out.facts
    simp only [seeS, talkR_tag, rowR_tag] at fM
    go_wp2_with (first
      | ((with_reducible refine at_list ?_); first
        | ((with_reducible refine at_load 49 _ rfl ?_); refine mem_load_wide 49 _ rfl rfl rfl (by with_reducible repeat first | exact HM.out | exact ph | apply pt | apply Mem.drew | apply Mem.alloc | apply Mem.set | apply Mem.allocO | (simp only [World.size_alloc, World.size_setCell, World.size_drew]; rfl) | rfl) (by with_reducible repeat first | exact ph | apply pt) Tryd.underlying49 rfl (infoRJ.trans (congrArg some (Eq.symm (by first | rfl | exact HLEN.out | exact HLEN1.out | (simp only [List.length_set]; first | exact HLEN.out | exact HLEN1.out))))) ?_)
        | ((first
          | ((with_reducible refine at_store 49 _ _ rfl ?_); refine mem_store_wide 49 _ _ rfl rfl rfl rfl (by with_reducible repeat first | exact HM.out | exact ph | apply pt | apply Mem.drew | apply Mem.alloc | apply Mem.set | apply Mem.allocO | (simp only [World.size_alloc, World.size_setCell, World.size_drew]; rfl) | rfl) (by with_reducible repeat first | exact ph | apply pt) infoRJ (by first | rfl | exact HLEN.out | exact HLEN1.out | (simp only [List.length_set]; first | exact HLEN.out | exact HLEN1.out)) (by first | rfl | exact HLEN.out | exact HLEN1.out | (simp only [List.length_set]; first | exact HLEN.out | exact HLEN1.out)) (by (repeat refine one_set ?_ rfl _); first | exact HONE.out | exact HONE1.out) ?_; intro w9 M)
          | ((with_reducible refine at_box 49 _ rfl ?_); refine mem_box_wide 49 _ rfl rfl rfl (by with_reducible repeat first | exact HM.out | exact ph | apply pt | apply Mem.drew | apply Mem.alloc | apply Mem.set | apply Mem.allocO | (simp only [World.size_alloc, World.size_setCell, World.size_drew]; rfl) | rfl) ?_; intro w9 n9 M)
          | ((with_reducible refine at_alloc 49 rfl ?_); refine mem_alloc_wide 49 rfl rfl (zeroRJ _) (by with_reducible repeat first | exact HM.out | exact ph | apply pt | apply Mem.drew | apply Mem.alloc | apply Mem.set | apply Mem.allocO | (simp only [World.size_alloc, World.size_setCell, World.size_drew]; rfl) | rfl) ?_; intro w9 n9 M)); (try simp only [List.set_cons_zero, List.set_cons_succ] at M); replace HM := Lib.hid M; clear M; clear fM; have fM := HM.out.facts; simp only [seeS, talkR_tag, rowR_tag] at fM)))
    all_goals clear fM
    refine bodyPost_ret (results_ct Tryd.results25 _ rfl (loadVar_wide 49 (by with_reducible repeat first | exact HM.out | exact ph | apply pt | apply Mem.drew | apply Mem.alloc | apply Mem.set | apply Mem.allocO | (simp only [World.size_alloc, World.size_setCell, World.size_drew]; rfl) | rfl) (by with_reducible repeat first | exact ph | apply pt) Tryd.underlying49 rfl (infoRJ.trans (congrArg some (Eq.symm (by first | rfl | exact HLEN.out | exact HLEN1.out | (simp only [List.length_set]; first | exact HLEN.out | exact HLEN1.out))))))) rfl ?_
    rw [HQ.out]
    refine ⟨_, rfl, ((HR.out).ext ?_).mono (fun k hk => .inl hk), ?_⟩ <;> (apply Mem.extTo; with_reducible repeat first | exact HM.out | exact ph | apply pt | apply Mem.drew | apply Mem.alloc | apply Mem.set | apply Mem.allocO | (simp only [World.size_alloc, World.size_setCell, World.size_drew]; rfl) | rfl)
  have H4 := Lib.hid h4
  have fM := HM.out.facts
  simp only [seeS, talkR_tag, rowR_tag] at fM
  go_wp2_with (first
    | ((with_reducible refine at_list ?_); first
      | ((with_reducible refine at_load 49 _ rfl ?_); refine mem_load_wide 49 _ rfl rfl rfl (by with_reducible repeat first | exact HM.out | exact ph | apply pt | apply Mem.drew | apply Mem.alloc | apply Mem.set | apply Mem.allocO | (simp only [World.size_alloc, World.size_setCell, World.size_drew]; rfl) | rfl) (by with_reducible repeat first | exact ph | apply pt) Tryd.underlying49 rfl (infoRJ.trans (congrArg some (Eq.symm (by first | rfl | exact HLEN.out | exact HLEN1.out | (simp only [List.length_set]; first | exact HLEN.out | exact HLEN1.out))))) ?_)
      | ((first
        | ((with_reducible refine at_store 49 _ _ rfl ?_); refine mem_store_wide 49 _ _ rfl rfl rfl rfl (by with_reducible repeat first | exact HM.out | exact ph | apply pt | apply Mem.drew | apply Mem.alloc | apply Mem.set | apply Mem.allocO | (simp only [World.size_alloc, World.size_setCell, World.size_drew]; rfl) | rfl) (by with_reducible repeat first | exact ph | apply pt) infoRJ (by first | rfl | exact HLEN.out | exact HLEN1.out | (simp only [List.length_set]; first | exact HLEN.out | exact HLEN1.out)) (by first | rfl | exact HLEN.out | exact HLEN1.out | (simp only [List.length_set]; first | exact HLEN.out | exact HLEN1.out)) (by (repeat refine one_set ?_ rfl _); first | exact HONE.out | exact HONE1.out) ?_; intro w9 M)
        | ((with_reducible refine at_box 49 _ rfl ?_); refine mem_box_wide 49 _ rfl rfl rfl (by with_reducible repeat first | exact HM.out | exact ph | apply pt | apply Mem.drew | apply Mem.alloc | apply Mem.set | apply Mem.allocO | (simp only [World.size_alloc, World.size_setCell, World.size_drew]; rfl) | rfl) ?_; intro w9 n9 M)
        | ((with_reducible refine at_alloc 49 rfl ?_); refine mem_alloc_wide 49 rfl rfl (zeroRJ _) (by with_reducible repeat first | exact HM.out | exact ph | apply pt | apply Mem.drew | apply Mem.alloc | apply Mem.set | apply Mem.allocO | (simp only [World.size_alloc, World.size_setCell, World.size_drew]; rfl) | rfl) ?_; intro w9 n9 M)); (try simp only [List.set_cons_zero, List.set_cons_succ] at M); replace HM := Lib.hid M; clear M; clear fM; have fM := HM.out.facts; simp only [seeS, talkR_tag, rowR_tag] at fM)))
  all_goals clear fM
  first | apply Mem.call | apply Mem.postD | apply Mem.stop | apply Mem.toUpd | apply Mem.list | apply Mem.code | apply Mem.post | apply Mem.postM
  · with_reducible repeat first | exact HM.out | exact ph | apply pt | apply Mem.drew | apply Mem.alloc | apply Mem.set | apply Mem.allocO | (simp only [World.size_alloc, World.size_setCell, World.size_drew]; rfl) | rfl
  intro w3 M
  try simp only [List.set_cons_zero, List.set_cons_succ] at M
  replace HM := Lib.hid M
  clear M
  rw [← HEV.out]
  refine (rwould_any w3 _ J.T.slot J.T e (HV.out.ext HM.out.extTo) HX.out.1 HX.out.2.2.1 HX.out.2.2.2.1).mono ?_
  rintro r w4 ⟨rfl, hE⟩
  replace HM := Lib.hid (HM.out.ext hE)
  clear hE h4
  cases hb : enB e && (countsR J.T e).2
  · have hq : ¬ (J.T.slot < 4096 ∧ (enB e && (countsR J.T e).2) = true) := fun h => by rw [hb] at h; cases h.2
    have HQ := Lib.hid (HQ0.out.trans (if_neg hq))
    clear hq hb
    have fM := HM.out.facts
    simp only [seeS, talkR_tag, rowR_tag] at fM
    go_wp2_with (first
      | ((with_reducible refine at_list ?_); first
        | ((with_reducible refine at_load 49 _ rfl ?_); refine mem_load_wide 49 _ rfl rfl rfl (by with_reducible repeat first | exact HM.out | exact ph | apply pt | apply Mem.drew | apply Mem.alloc | apply Mem.set | apply Mem.allocO | (simp only [World.size_alloc, World.size_setCell, World.size_drew]; rfl) | rfl) (by with_reducible repeat first | exact ph | apply pt) Tryd.underlying49 rfl (infoRJ.trans (congrArg some (Eq.symm (by first | rfl | exact HLEN.out | exact HLEN1.out | (simp only [List.length_set]; first | exact HLEN.out | exact HLEN1.out))))) ?_)
        | ((first
          | ((with_reducible refine at_store 49 _ _ rfl ?_); refine mem_store_wide 49 _ _ rfl rfl rfl rfl (by with_reducible repeat first | exact HM.out | exact ph | apply pt | apply Mem.drew | apply Mem.alloc | apply Mem.set | apply Mem.allocO | (simp only [World.size_alloc, World.size_setCell, World.size_drew]; rfl) | rfl) (by with_reducible repeat first | exact ph | apply pt) infoRJ (by first | rfl | exact HLEN.out | exact HLEN1.out | (simp only [List.length_set]; first | exact HLEN.out | exact HLEN1.out)) (by first | rfl | exact HLEN.out | exact HLEN1.out | (simp only [List.length_set]; first | exact HLEN.out | exact HLEN1.out)) (by (repeat refine one_set ?_ rfl _); first | exact HONE.out | exact HONE1.out) ?_; intro w9 M)
          | ((with_reducible refine at_box 49 _ rfl ?_); refine mem_box_wide 49 _ rfl rfl rfl (by with_reducible repeat first | exact HM.out | exact ph | apply pt | apply Mem.drew | apply Mem.alloc | apply Mem.set | apply Mem.allocO | (simp only [World.size_alloc, World.size_setCell, World.size_drew]; rfl) | rfl) ?_; intro w9 n9 M)
          | ((with_reducible refine at_alloc 49 rfl ?_); refine mem_alloc_wide 49 rfl rfl (zeroRJ _) (by with_reducible repeat first | exact HM.out | exact ph | apply pt | apply Mem.drew | apply Mem.alloc | apply Mem.set | apply Mem.allocO | (simp only [World.size_alloc, World.size_setCell, World.size_drew]; rfl) | rfl) ?_; intro w9 n9 M)); (try simp only [List.set_cons_zero, List.set_cons_succ] at M); replace HM := Lib.hid M; clear M; clear fM; have fM := HM.out.facts; simp only [seeS, talkR_tag, rowR_tag] at fM)))
    all_goals clear fM
    refine bodyPost_ret (results_ct Tryd.results25 _ rfl (loadVar_wide 49 (by with_reducible repeat first | exact HM.out | exact ph | apply pt | apply Mem.drew | apply Mem.alloc | apply Mem.set | apply Mem.allocO | (simp only [World.size_alloc, World.size_setCell, World.size_drew]; rfl) | rfl) (by with_reducible repeat first | exact ph | apply pt) Tryd.underlying49 rfl (infoRJ.trans (congrArg some (Eq.symm (by first | rfl | exact HLEN.out | exact HLEN1.out | (simp only [List.length_set]; first | exact HLEN.out | exact HLEN1.out))))))) rfl ?_
    rw [HQ.out]
    refine ⟨_, rfl, ((HR.out).ext ?_).mono (fun k hk => .inl hk), ?_⟩ <;> (apply Mem.extTo; with_reducible repeat first | exact HM.out | exact ph | apply pt | apply Mem.drew | apply Mem.alloc | apply Mem.set | apply Mem.allocO | (simp only [World.size_alloc, World.size_setCell, World.size_drew]; rfl) | rfl)
  have hq : (J.T.slot < 4096 ∧ (enB e && (countsR J.T e).2) = true) := ⟨H4.out, hb⟩
  have HQ := Lib.hid (HQ0.out.trans (if_pos hq))
  have HB := Lib.hid hb
  clear hq hb
  have fM := HM.out.facts
  simp only [seeS, talkR_tag, rowR_tag] at fM
  go_wp2_with (first
    | ((with_reducible refine at_list ?_); first
      | ((with_reducible refine at_load 49 _ rfl ?_); refine mem_load_wide 49 _ rfl rfl rfl (by with_reducible repeat first | exact HM.out | exact ph | apply pt | apply Mem.drew | apply Mem.alloc | apply Mem.set | apply Mem.allocO | (simp only [World.size_alloc, World.size_setCell, World.size_drew]; rfl) | rfl) (by with_reducible repeat first | exact ph | apply pt) Tryd.underlying49 rfl (infoRJ.trans (congrArg some (Eq.symm (by first | rfl | exact HLEN.out | exact HLEN1.out | (simp only [List.length_set]; first | exact HLEN.out | exact HLEN1.out))))) ?_)
      | ((first
        | ((with_reducible refine at_store 49 _ _ rfl ?_); refine mem_store_wide 49 _ _ rfl rfl rfl rfl (by with_reducible repeat first | exact HM.out | exact ph | apply pt | apply Mem.drew | apply Mem.alloc | apply Mem.set | apply Mem.allocO | (simp only [World.size_alloc, World.size_setCell, World.size_drew]; rfl) | rfl) (by with_reducible repeat first | exact ph | apply pt) infoRJ (by first | rfl | exact HLEN.out | exact HLEN1.out | (simp only [List.length_set]; first | exact HLEN.out | exact HLEN1.out)) (by first | rfl | exact HLEN.out | exact HLEN1.out | (simp only [List.length_set]; first | exact HLEN.out | exact HLEN1.out)) (by (repeat refine one_set ?_ rfl _); first | exact HONE.out | exact HONE1.out) ?_; intro w9 M)
        | ((with_reducible refine at_box 49 _ rfl ?_); refine mem_box_wide 49 _ rfl rfl rfl (by with_reducible repeat first | exact HM.out | exact ph | apply pt | apply Mem.drew | apply Mem.alloc | apply Mem.set | apply Mem.allocO | (simp only [World.size_alloc, World.size_setCell, World.size_drew]; rfl) | rfl) ?_; intro w9 n9 M)
        | ((with_reducible refine at_alloc 49 rfl ?_); refine mem_alloc_wide 49 rfl rfl (zeroRJ _) (by with_reducible repeat first | exact HM.out | exact ph | apply pt | apply Mem.drew | apply Mem.alloc | apply Mem.set | apply Mem.allocO | (simp only [World.size_alloc, World.size_setCell, World.size_drew]; rfl) | rfl) ?_; intro w9 n9 M)); (try simp only [List.set_cons_zero, List.set_cons_succ] at M); replace HM := Lib.hid M; clear M; clear fM; have fM := HM.out.facts; simp only [seeS, talkR_tag, rowR_tag] at fM)))
  all_goals clear fM
  first | apply Mem.call | apply Mem.postD | apply Mem.stop | apply Mem.toUpd | apply Mem.list | apply Mem.code | apply Mem.post | apply Mem.postM
  · with_reducible repeat first | exact HM.out | exact ph | apply pt | apply Mem.drew | apply Mem.alloc | apply Mem.set | apply Mem.allocO | (simp only [World.size_alloc, World.size_setCell, World.size_drew]; rfl) | rfl
  intro w5 M
  try simp only [List.set_cons_zero, List.set_cons_succ] at M
  replace HM := Lib.hid M
  clear M
  rw [← HEV.out]
  have hb2 := HB.out
  rw [Bool.and_eq_true] at hb2
  refine (rapply_any w5 _ J.T e (HV.out.ext HM.out.extTo) HX.out.1 HX.out.2.2.1 HX.out.2.2.2.1 hb2.1 hb2.2 HX.out.2.1 H4.out).mono ?_
  rintro r w6 ⟨v', rfl, hrow, hE⟩
  have HM5 := HM
  replace HM := Lib.hid (HM.out.newRow hE hrow)
  obtain ⟨av, cv, rfl⟩ := hrow.len
  have HS5 := Lib.hid HM5.out.extTo.size
  have HRW := Lib.hid hrow
  clear hE hrow hb2
  have fM := HM.out.facts
  simp only [seeS, talkR_tag, rowR_tag] at fM
  go_wp2_with (first
    | ((with_reducible refine at_list ?_); first
      | ((with_reducible refine at_load 49 _ rfl ?_); refine mem_load_wide 49 _ rfl rfl rfl (by with_reducible repeat first | exact HM.out | exact ph | apply pt | apply Mem.drew | apply Mem.alloc | apply Mem.set | apply Mem.allocO | (simp only [World.size_alloc, World.size_setCell, World.size_drew]; rfl) | rfl) (by with_reducible repeat first | exact ph | apply pt) Tryd.underlying49 rfl (infoRJ.trans (congrArg some (Eq.symm (by first | rfl | exact HLEN.out | exact HLEN1.out | (simp only [List.length_set]; first | exact HLEN.out | exact HLEN1.out))))) ?_)
      | ((first
        | ((with_reducible refine at_store 49 _ _ rfl ?_); refine mem_store_wide 49 _ _ rfl rfl rfl rfl (by with_reducible repeat first | exact HM.out | exact ph | apply pt | apply Mem.drew | apply Mem.alloc | apply Mem.set | apply Mem.allocO | (simp only [World.size_alloc, World.size_setCell, World.size_drew]; rfl) | rfl) (by with_reducible repeat first | exact ph | apply pt) infoRJ (by first | rfl | exact HLEN.out | exact HLEN1.out | (simp only [List.length_set]; first | exact HLEN.out | exact HLEN1.out)) (by first | rfl | exact HLEN.out | exact HLEN1.out | (simp only [List.length_set]; first | exact HLEN.out | exact HLEN1.out)) (by (repeat refine one_set ?_ rfl _); first | exact HONE.out | exact HONE1.out) ?_; intro w9 M)
        | ((with_reducible refine at_box 49 _ rfl ?_); refine mem_box_wide 49 _ rfl rfl rfl (by with_reducible repeat first | exact HM.out | exact ph | apply pt | apply Mem.drew | apply Mem.alloc | apply Mem.set | apply Mem.allocO | (simp only [World.size_alloc, World.size_setCell, World.size_drew]; rfl) | rfl) ?_; intro w9 n9 M)
        | ((with_reducible refine at_alloc 49 rfl ?_); refine mem_alloc_wide 49 rfl rfl (zeroRJ _) (by with_reducible repeat first | exact HM.out | exact ph | apply pt | apply Mem.drew | apply Mem.alloc | apply Mem.set | apply Mem.allocO | (simp only [World.size_alloc, World.size_setCell, World.size_drew]; rfl) | rfl) ?_; intro w9 n9 M)); (try simp only [List.set_cons_zero, List.set_cons_succ] at M); replace HM := Lib.hid M; clear M; clear fM; have fM := HM.out.facts; simp only [seeS, talkR_tag, rowR_tag] at fM)))
  all_goals clear fM
  have hU := (HM.out.pick (r := rowR lnE (.slice av (J.T.put e).l.length cv) (J.T.put e).l) (by with_reducible repeat first | exact ph | apply pt)).upd.row
  refine bodyPost_ret (results_ct Tryd.results25 _ rfl (loadVar_wide 49 (by with_reducible repeat first | exact HM.out | exact ph | apply pt | apply Mem.drew | apply Mem.alloc | apply Mem.set | apply Mem.allocO | (simp only [World.size_alloc, World.size_setCell, World.size_drew]; rfl) | rfl) (by with_reducible repeat first | exact ph | apply pt) Tryd.underlying49 rfl (infoRJ.trans (congrArg some (Eq.symm (by first | rfl | exact HLEN.out | exact HLEN1.out | (simp only [List.length_set]; first | exact HLEN.out | exact HLEN1.out))))))) rfl ?_
  rw [HQ.out]
  exact ⟨_, rfl, (((HR.out.ext hU.2).mono (fun k hk => Or.inl hk)).setT _ (J.T.put e) (hU.1.mono (Nat.zero_le _)) (fun k hk => .inr (Win.block hU.1 k hk).1)).setTold p HP.out _, hU.2⟩
end Go.Proofs.YthhdgjofagdjeaaDoor
end
