/- Texts VG, VH, one behind the other. Conditions: as each says. -/
import Derived.Test.YthhdgjofagdjeaaDoorPkK
section
/- The document's judge: a place told a line. Condition: the judge reads as 'RefAt' says; the place is one of nine; the index is not below 0; the table of standings is that of the lines. -/
set_option linter.unusedVariables false
set_option linter.unusedSimpArgs false
set_option maxHeartbeats 4000000
set_option maxRecDepth 100000
namespace Go.Proofs.YthhdgjofagdjeaaDoor
open Go.RowKit Go.Shelf
theorem RefAt.setT {w : World} {A : Nat → Prop} {J : JA} {cs : List Value} (h : RefAt w A J cs) (v : Value) (T : TA) (hv : RowAt lnE w 0 v T.l) (hA : ∀ k, Own v k → A k) : RefAt w A { J with T := T } ((cs.set 2 (.int .i64 T.slot)).set 3 v) :=
  let ⟨vl, vp, h1, h2, h3, h4, h5, h6, h7⟩ := h
  ⟨v, vp, by rw [h1]; rfl, hv, hA, h4, h5, h6, h7⟩
theorem rline_any {A : Nat → Prop} (w : World) (J : JA) (cs : List Value) (p : Nat) (index : Int) (e : En) (h : RefAt w A J cs) (hp : p < 9) (hi0 : 0 ≤ index) (hi1 : J.told.getD p 0 ≤ J.T.l.length) (hl : J.T.l.length ≤ 4096) (hs0 : 0 ≤ J.T.slot) (hT : J.T.Ok) (ht : e.text.length ≤ 500000) (hpl : J.put.length ≤ 1000000) :
    Calls Tryd.prog 25 #[.agg cs.toArray, (⟨2, p, index, e⟩ : Sn).v] w fun r w' => ∃ cs', r = .returned (.tuple #[.agg cs'.toArray, .int .i64 (lineR J p index e).2]) ∧ RefAt w' (fun k => A k ∨ w.heap.size ≤ k) (lineR J p index e).1 cs' ∧ Ext w w' := by
  obtain ⟨al, cl, ap, cp, hlen, hone, -, -, c2, c3, cT, -, -, -, hvl, -⟩ := h.open
  have cp := cT p hp
  have HR := Lib.hid h
  have HV := Lib.hid hvl
  have HLEN := Lib.hid hlen
  have HONE := Lib.hid hone
  have HWD : Wd _ _ := ⟨HLEN.out, HONE.out⟩
  have HP := Lib.hid hp
  have HM := Lib.hid (Mem.start0 w)
  have g1 : (p : Int) < 9 := by omega
  have g2 : ¬ (p : Int) < 0 := by omega
  obtain ⟨n, hn⟩ : ∃ n, J.told.getD p 0 = n := ⟨_, rfl⟩
  rw [hn] at cp hi1
  have HN := Lib.hid hn
  have HX := Lib.hid (show _ ∧ _ ∧ _ ∧ _ ∧ _ ∧ _ from ⟨hl, hs0, hT, ht, hpl, hi1⟩)
  have HEV := Lib.hid (show e.v = .agg #[.int .i64 e.kind, .int .i64 e.member, .int .i64 e.number, .string (bs e.text)] from rfl)
  clear h hlen hone cT hn hp hvl hl hs0 hT ht hpl hi1
  unfold Sn.v
  dsimp only
  by_cases hx : index = n
  case neg =>
    have hq : lineR J p index e = (J, 403) := by unfold lineR; rw [if_pos (by rw [HN.out]; exact hx)]
    rw [hq]
    have hx' : (index != n) = true := by simpa using hx
    clear hq hx
    go_enter Tryd.func25, Tryd.ntmps25
    have fM := HM.out.fa
    go_wp2_with (first
      | ((with_reducible refine at_list ?_); first
        | ((with_reducible refine at_load 49 _ rfl ?_); refine ldW 49 _ rfl rfl rfl HM.out Tryd.underlying49 rfl infoRJ ?_)
        | ((first
          | ((with_reducible refine at_store 49 _ _ rfl ?_); refine stW 49 _ _ rfl rfl rfl rfl HM.out infoRJ ?_; intro w9 M)
          | ((with_reducible refine at_box 49 _ rfl ?_); refine boW 49 _ rfl rfl rfl HM.out ?_; intro w9 n9 M)
          | ((with_reducible refine at_alloc 49 rfl ?_); refine alW 49 rfl rfl (zeroRJ _) HM.out ?_; intro w9 n9 M)); replace HM := Lib.hid M; clear M; clear fM; have fM := HM.out.fa)))
    all_goals clear fM
    refine nxt HM fun w0 M => ?_
    clear HM; have HM := M; clear M
    have fM := HM.out.fa
    have hE0 : Keeps NoB w0 w0.drew := (Keeps.refl _ _).drew
    refine wp_region_plan [(0, 0), (3, 1), (0, 2), (3, 3), (0, 4), (0, 5), (3, 6), (0, 7)] [] [] [] (ClsE w0) (by kernel_rfl) (by kernel_rfl) (by kernel_rfl) rfl rfl (ClsE.of hE0) (fun _ _ _ d _ h => by cases d <;> exact h) ?_; simp only [planL, nL]
    refine pR (v := ?_) rfl (fun W => ?_) ?_; rotate_left; (go_simp <;> with_reducible rfl); simp only [nP]
    refine pX (v := ?_) rfl ?_ ?_; rotate_left; (go_simp <;> with_reducible rfl); simp only [nP]
    refine pR (v := ?_) rfl (fun W => ?_) ?_; rotate_left; (go_simp <;> with_reducible rfl); simp only [nP]
    refine pX (v := ?_) rfl ?_ ?_; rotate_left; (go_simp <;> with_reducible rfl); simp only [nP]
    iterate 2 (refine pR (v := ?_) rfl (fun W => ?_) ?_; rotate_left; (go_simp <;> with_reducible rfl); simp only [nP])
    refine pX (v := ?_) rfl ?_ ?_; rotate_left; (go_simp <;> with_reducible rfl); simp only [nP]
    refine pR (v := ?_) rfl (fun W => ?_) ?_; rotate_left; (go_simp <;> with_reducible rfl); simp only [nP]
    refine plan_nil ?_; simp only [tailL, List.filterMap_nil]
    go_wp2_with (first
      | ((with_reducible refine at_list ?_); first
        | ((with_reducible refine at_load 49 _ rfl ?_); refine ldW 49 _ rfl rfl rfl HM.out Tryd.underlying49 rfl infoRJ ?_)
        | ((first
          | ((with_reducible refine at_store 49 _ _ rfl ?_); refine stW 49 _ _ rfl rfl rfl rfl HM.out infoRJ ?_; intro w9 M)
          | ((with_reducible refine at_box 49 _ rfl ?_); refine boW 49 _ rfl rfl rfl HM.out ?_; intro w9 n9 M)
          | ((with_reducible refine at_alloc 49 rfl ?_); refine alW 49 rfl rfl (zeroRJ _) HM.out ?_; intro w9 n9 M)); replace HM := Lib.hid M; clear M; clear fM; have fM := HM.out.fa)))
    clear fM
    refine bodyPost_ret (rtW 49 Tryd.results25 _ rfl HM.out Tryd.underlying49 rfl infoRJ) rfl ?_
    refine ⟨_, rfl, ((HR.out).ext ?_).mono (fun k hk => .inl hk), ?_⟩ <;> (apply Mem.extTo; exact HM.out.to)
  subst hx
  obtain ⟨k, rfl⟩ : ∃ k : Nat, index = k := ⟨index.toNat, by omega⟩
  clear hi0
  have hww : wrap64 ((k : Int) + 1) = (k : Int) + 1 := IntWalk.wrap64_in _ (by have := HX.out; omega)
  by_cases hk : k < J.T.l.length
  · have gk : (k : Int) < (J.T.l.length : Int) := by omega
    have hb := hasB_at J.T.l k hk e
    obtain ⟨x, hx⟩ : ∃ x, J.T.l[k].e = x := ⟨_, rfl⟩
    rw [hx] at hb
    have HXE := Lib.hid hx
    have HK := Lib.hid hk
    have hq1 := fun W => ne_en x e W
    clear hx
    by_cases hd : x = e
    · rw [decide_eq_true hd] at hb hq1
      have hq : lineR J p k e = ({ J with told := J.told.set p ((k : Int) + 1) }, 0) := by unfold lineR; rw [if_neg (fun h => h HN.out.symm), if_pos gk, if_pos hb]
      rw [hq]
      clear hq hb hd
      go_enter Tryd.func25, Tryd.ntmps25
      have fM := HM.out.fa
      go_wp2_with (first
        | ((with_reducible refine at_list ?_); first
          | ((with_reducible refine at_load 49 _ rfl ?_); refine ldW 49 _ rfl rfl rfl HM.out Tryd.underlying49 rfl infoRJ ?_)
          | ((first
            | ((with_reducible refine at_store 49 _ _ rfl ?_); refine stW 49 _ _ rfl rfl rfl rfl HM.out infoRJ ?_; intro w9 M)
            | ((with_reducible refine at_box 49 _ rfl ?_); refine boW 49 _ rfl rfl rfl HM.out ?_; intro w9 n9 M)
            | ((with_reducible refine at_alloc 49 rfl ?_); refine alW 49 rfl rfl (zeroRJ _) HM.out ?_; intro w9 n9 M)); replace HM := Lib.hid M; clear M; clear fM; have fM := HM.out.fa)))
      all_goals clear fM
      refine nxt HM fun w0 M => ?_
      clear HM; have HM := M; clear M
      have fM := HM.out.fa
      have hE0 : Keeps NoB w0 w0.drew := (Keeps.refl _ _).drew
      refine wp_region_plan [(0, 0), (3, 1), (0, 2), (3, 3), (0, 4), (0, 5), (3, 6), (0, 7)] [] [] [] (ClsE w0) (by kernel_rfl) (by kernel_rfl) (by kernel_rfl) rfl rfl (ClsE.of hE0) (fun _ _ _ d _ h => by cases d <;> exact h) ?_; simp only [planL, nL]
      refine pR (v := ?_) rfl (fun W => ?_) ?_; rotate_left; (go_simp <;> with_reducible rfl); simp only [nP]
      refine pX (v := ?_) rfl ?_ ?_; rotate_left; (go_simp <;> with_reducible rfl); simp only [nP]
      refine pR (v := ?_) rfl (fun W => ?_) ?_; rotate_left; (go_simp <;> with_reducible rfl); simp only [nP]
      refine pX (v := ?_) rfl ?_ ?_; rotate_left; (go_simp <;> with_reducible rfl); simp only [nP]
      iterate 2 (refine pR (v := ?_) rfl (fun W => ?_) ?_; rotate_left; (go_simp <;> with_reducible rfl); simp only [nP])
      refine pX (v := ?_) rfl ?_ ?_; rotate_left; (go_simp <;> with_reducible rfl); simp only [nP]
      refine pR (v := ?_) rfl (fun W => ?_) ?_; rotate_left; (go_simp <;> with_reducible rfl); simp only [nP]
      refine plan_nil ?_; simp only [tailL, List.filterMap_nil]
      go_wp2_with (first
        | ((with_reducible refine at_list ?_); first
          | ((with_reducible refine at_load 49 _ rfl ?_); refine ldW 49 _ rfl rfl rfl HM.out Tryd.underlying49 rfl infoRJ ?_)
          | ((first
            | ((with_reducible refine at_store 49 _ _ rfl ?_); refine stW 49 _ _ rfl rfl rfl rfl HM.out infoRJ ?_; intro w9 M)
            | ((with_reducible refine at_box 49 _ rfl ?_); refine boW 49 _ rfl rfl rfl HM.out ?_; intro w9 n9 M)
            | ((with_reducible refine at_alloc 49 rfl ?_); refine alW 49 rfl rfl (zeroRJ _) HM.out ?_; intro w9 n9 M)); replace HM := Lib.hid M; clear M; clear fM; have fM := HM.out.fa)))
      clear fM
      refine nxt HM fun w1 M => ?_
      clear HM; have HM := M; clear M
      obtain ⟨g, o, rfl, hg, d0, d1, d2, d3⟩ := ln_x (HV.out.ext HM.out.extTo) k HK.out
      rw [HXE.out] at d0 d1 d2 d3
      have fM := HM.out.fa
      have hE0 : Keeps NoB w1 w1.drew := (Keeps.refl _ _).drew
      refine wp_region_plan [(0, 0), (0, 1), (3, 2), (0, 3), (3, 4), (0, 5), (0, 6), (3, 7), (0, 8), (3, 9), (0, 10)] [] [] [] (ClsE w1) (by kernel_rfl) (by kernel_rfl) (by kernel_rfl) rfl rfl (ClsE.of hE0) (fun _ _ _ d _ h => by cases d <;> exact h) ?_; simp only [planL, nL]
      iterate 2 (refine pR (v := ?_) rfl (fun W => ?_) ?_; rotate_left; (go_simp <;> with_reducible rfl); simp only [nP])
      refine pX (v := ?_) rfl ?_ ?_; rotate_left; (go_simp <;> with_reducible rfl); simp only [nP]
      refine pR (v := ?_) rfl (fun W => ?_) ?_; rotate_left; (go_simp <;> with_reducible rfl); simp only [nP]
      refine pX (v := ?_) rfl ?_ ?_; rotate_left; (go_simp <;> with_reducible rfl); simp only [nP]
      iterate 2 (refine pR (v := ?_) rfl (fun W => ?_) ?_; rotate_left; (go_simp <;> with_reducible rfl); simp only [nP])
      refine pX (v := ?_) rfl ?_ ?_; rotate_left; (go_simp <;> with_reducible rfl); simp only [nP]
      refine pR (v := ?_) rfl (fun W => ?_) ?_; rotate_left; (go_simp <;> with_reducible rfl); simp only [nP]
      refine pX (v := ?_) rfl ?_ ?_; rotate_left; (go_simp <;> with_reducible rfl); simp only [nP]
      refine pR (v := ?_) rfl (fun W => ?_) ?_; rotate_left; (go_simp <;> with_reducible rfl); simp only [nP]
      refine plan_nil ?_; simp only [tailL, List.filterMap_nil]
      go_wp2_with (first
        | ((with_reducible refine at_list ?_); first
          | ((with_reducible refine at_load 49 _ rfl ?_); refine ldW 49 _ rfl rfl rfl HM.out Tryd.underlying49 rfl infoRJ ?_)
          | ((first
            | ((with_reducible refine at_store 49 _ _ rfl ?_); refine stW 49 _ _ rfl rfl rfl rfl HM.out infoRJ ?_; intro w9 M)
            | ((with_reducible refine at_box 49 _ rfl ?_); refine boW 49 _ rfl rfl rfl HM.out ?_; intro w9 n9 M)
            | ((with_reducible refine at_alloc 49 rfl ?_); refine alW 49 rfl rfl (zeroRJ _) HM.out ?_; intro w9 n9 M)); replace HM := Lib.hid M; clear M; clear fM; have fM := HM.out.fa)))
      clear fM
      refine bodyPost_ret (rtW 49 Tryd.results25 _ rfl HM.out Tryd.underlying49 rfl infoRJ) rfl ?_
      refine ⟨_, rfl, ((HR.out.setTold p HP.out _).ext ?_).mono (fun k hk => .inl hk), ?_⟩ <;> (apply Mem.extTo; exact HM.out.to)
    · rw [decide_eq_false hd] at hb hq1
      have hq : lineR J p k e = (J, 400) := by unfold lineR; rw [if_neg (fun h => h HN.out.symm), if_pos gk, if_neg (by rw [hb]; exact Bool.noConfusion)]
      rw [hq]
      clear hq hb hd
      go_enter Tryd.func25, Tryd.ntmps25
      have fM := HM.out.fa
      go_wp2_with (first
        | ((with_reducible refine at_list ?_); first
          | ((with_reducible refine at_load 49 _ rfl ?_); refine ldW 49 _ rfl rfl rfl HM.out Tryd.underlying49 rfl infoRJ ?_)
          | ((first
            | ((with_reducible refine at_store 49 _ _ rfl ?_); refine stW 49 _ _ rfl rfl rfl rfl HM.out infoRJ ?_; intro w9 M)
            | ((with_reducible refine at_box 49 _ rfl ?_); refine boW 49 _ rfl rfl rfl HM.out ?_; intro w9 n9 M)
            | ((with_reducible refine at_alloc 49 rfl ?_); refine alW 49 rfl rfl (zeroRJ _) HM.out ?_; intro w9 n9 M)); replace HM := Lib.hid M; clear M; clear fM; have fM := HM.out.fa)))
      all_goals clear fM
      refine nxt HM fun w0 M => ?_
      clear HM; have HM := M; clear M
      have fM := HM.out.fa
      have hE0 : Keeps NoB w0 w0.drew := (Keeps.refl _ _).drew
      refine wp_region_plan [(0, 0), (3, 1), (0, 2), (3, 3), (0, 4), (0, 5), (3, 6), (0, 7)] [] [] [] (ClsE w0) (by kernel_rfl) (by kernel_rfl) (by kernel_rfl) rfl rfl (ClsE.of hE0) (fun _ _ _ d _ h => by cases d <;> exact h) ?_; simp only [planL, nL]
      refine pR (v := ?_) rfl (fun W => ?_) ?_; rotate_left; (go_simp <;> with_reducible rfl); simp only [nP]
      refine pX (v := ?_) rfl ?_ ?_; rotate_left; (go_simp <;> with_reducible rfl); simp only [nP]
      refine pR (v := ?_) rfl (fun W => ?_) ?_; rotate_left; (go_simp <;> with_reducible rfl); simp only [nP]
      refine pX (v := ?_) rfl ?_ ?_; rotate_left; (go_simp <;> with_reducible rfl); simp only [nP]
      iterate 2 (refine pR (v := ?_) rfl (fun W => ?_) ?_; rotate_left; (go_simp <;> with_reducible rfl); simp only [nP])
      refine pX (v := ?_) rfl ?_ ?_; rotate_left; (go_simp <;> with_reducible rfl); simp only [nP]
      refine pR (v := ?_) rfl (fun W => ?_) ?_; rotate_left; (go_simp <;> with_reducible rfl); simp only [nP]
      refine plan_nil ?_; simp only [tailL, List.filterMap_nil]
      go_wp2_with (first
        | ((with_reducible refine at_list ?_); first
          | ((with_reducible refine at_load 49 _ rfl ?_); refine ldW 49 _ rfl rfl rfl HM.out Tryd.underlying49 rfl infoRJ ?_)
          | ((first
            | ((with_reducible refine at_store 49 _ _ rfl ?_); refine stW 49 _ _ rfl rfl rfl rfl HM.out infoRJ ?_; intro w9 M)
            | ((with_reducible refine at_box 49 _ rfl ?_); refine boW 49 _ rfl rfl rfl HM.out ?_; intro w9 n9 M)
            | ((with_reducible refine at_alloc 49 rfl ?_); refine alW 49 rfl rfl (zeroRJ _) HM.out ?_; intro w9 n9 M)); replace HM := Lib.hid M; clear M; clear fM; have fM := HM.out.fa)))
      clear fM
      refine nxt HM fun w1 M => ?_
      clear HM; have HM := M; clear M
      obtain ⟨g, o, rfl, hg, d0, d1, d2, d3⟩ := ln_x (HV.out.ext HM.out.extTo) k HK.out
      rw [HXE.out] at d0 d1 d2 d3
      have fM := HM.out.fa
      have hE0 : Keeps NoB w1 w1.drew := (Keeps.refl _ _).drew
      refine wp_region_plan [(0, 0), (0, 1), (3, 2), (0, 3), (3, 4), (0, 5), (0, 6), (3, 7), (0, 8), (3, 9), (0, 10)] [] [] [] (ClsE w1) (by kernel_rfl) (by kernel_rfl) (by kernel_rfl) rfl rfl (ClsE.of hE0) (fun _ _ _ d _ h => by cases d <;> exact h) ?_; simp only [planL, nL]
      iterate 2 (refine pR (v := ?_) rfl (fun W => ?_) ?_; rotate_left; (go_simp <;> with_reducible rfl); simp only [nP])
      refine pX (v := ?_) rfl ?_ ?_; rotate_left; (go_simp <;> with_reducible rfl); simp only [nP]
      refine pR (v := ?_) rfl (fun W => ?_) ?_; rotate_left; (go_simp <;> with_reducible rfl); simp only [nP]
      refine pX (v := ?_) rfl ?_ ?_; rotate_left; (go_simp <;> with_reducible rfl); simp only [nP]
      iterate 2 (refine pR (v := ?_) rfl (fun W => ?_) ?_; rotate_left; (go_simp <;> with_reducible rfl); simp only [nP])
      refine pX (v := ?_) rfl ?_ ?_; rotate_left; (go_simp <;> with_reducible rfl); simp only [nP]
      refine pR (v := ?_) rfl (fun W => ?_) ?_; rotate_left; (go_simp <;> with_reducible rfl); simp only [nP]
      refine pX (v := ?_) rfl ?_ ?_; rotate_left; (go_simp <;> with_reducible rfl); simp only [nP]
      refine pR (v := ?_) rfl (fun W => ?_) ?_; rotate_left; (go_simp <;> with_reducible rfl); simp only [nP]
      refine plan_nil ?_; simp only [tailL, List.filterMap_nil]
      go_wp2_with (first
        | ((with_reducible refine at_list ?_); first
          | ((with_reducible refine at_load 49 _ rfl ?_); refine ldW 49 _ rfl rfl rfl HM.out Tryd.underlying49 rfl infoRJ ?_)
          | ((first
            | ((with_reducible refine at_store 49 _ _ rfl ?_); refine stW 49 _ _ rfl rfl rfl rfl HM.out infoRJ ?_; intro w9 M)
            | ((with_reducible refine at_box 49 _ rfl ?_); refine boW 49 _ rfl rfl rfl HM.out ?_; intro w9 n9 M)
            | ((with_reducible refine at_alloc 49 rfl ?_); refine alW 49 rfl rfl (zeroRJ _) HM.out ?_; intro w9 n9 M)); replace HM := Lib.hid M; clear M; clear fM; have fM := HM.out.fa)))
      clear fM
      refine bodyPost_ret (rtW 49 Tryd.results25 _ rfl HM.out Tryd.underlying49 rfl infoRJ) rfl ?_
      refine ⟨_, rfl, ((HR.out).ext ?_).mono (fun k hk => .inl hk), ?_⟩ <;> (apply Mem.extTo; exact HM.out.to)
  have gk : ¬ (k : Int) < (J.T.l.length : Int) := by omega
  have HD := Lib.hid (show ¬ ¬ (k : Int) = J.told.getD p 0 from fun h => h HN.out.symm)
  have HG := Lib.hid gk
  clear hk
  go_enter Tryd.func25, Tryd.ntmps25
  have fM := HM.out.fa
  go_wp2_with (first
    | ((with_reducible refine at_list ?_); first
      | ((with_reducible refine at_load 49 _ rfl ?_); refine ldW 49 _ rfl rfl rfl HM.out Tryd.underlying49 rfl infoRJ ?_)
      | ((first
        | ((with_reducible refine at_store 49 _ _ rfl ?_); refine stW 49 _ _ rfl rfl rfl rfl HM.out infoRJ ?_; intro w9 M)
        | ((with_reducible refine at_box 49 _ rfl ?_); refine boW 49 _ rfl rfl rfl HM.out ?_; intro w9 n9 M)
        | ((with_reducible refine at_alloc 49 rfl ?_); refine alW 49 rfl rfl (zeroRJ _) HM.out ?_; intro w9 n9 M)); replace HM := Lib.hid M; clear M; clear fM; have fM := HM.out.fa)))
  all_goals clear fM
  refine nxt HM fun w0 M => ?_
  clear HM; have HM := M; clear M
  have fM := HM.out.fa
  have hE0 : Keeps NoB w0 w0.drew := (Keeps.refl _ _).drew
  refine wp_region_plan [(0, 0), (3, 1), (0, 2), (3, 3), (0, 4), (0, 5), (3, 6), (0, 7)] [] [] [] (ClsE w0) (by kernel_rfl) (by kernel_rfl) (by kernel_rfl) rfl rfl (ClsE.of hE0) (fun _ _ _ d _ h => by cases d <;> exact h) ?_; simp only [planL, nL]
  refine pR (v := ?_) rfl (fun W => ?_) ?_; rotate_left; (go_simp <;> with_reducible rfl); simp only [nP]
  refine pX (v := ?_) rfl ?_ ?_; rotate_left; (go_simp <;> with_reducible rfl); simp only [nP]
  refine pR (v := ?_) rfl (fun W => ?_) ?_; rotate_left; (go_simp <;> with_reducible rfl); simp only [nP]
  refine pX (v := ?_) rfl ?_ ?_; rotate_left; (go_simp <;> with_reducible rfl); simp only [nP]
  iterate 2 (refine pR (v := ?_) rfl (fun W => ?_) ?_; rotate_left; (go_simp <;> with_reducible rfl); simp only [nP])
  refine pX (v := ?_) rfl ?_ ?_; rotate_left; (go_simp <;> with_reducible rfl); simp only [nP]
  refine pR (v := ?_) rfl (fun W => ?_) ?_; rotate_left; (go_simp <;> with_reducible rfl); simp only [nP]
  refine plan_nil ?_; simp only [tailL, List.filterMap_nil]
  go_wp2_with (first
    | ((with_reducible refine at_list ?_); first
      | ((with_reducible refine at_load 49 _ rfl ?_); refine ldW 49 _ rfl rfl rfl HM.out Tryd.underlying49 rfl infoRJ ?_)
      | ((first
        | ((with_reducible refine at_store 49 _ _ rfl ?_); refine stW 49 _ _ rfl rfl rfl rfl HM.out infoRJ ?_; intro w9 M)
        | ((with_reducible refine at_box 49 _ rfl ?_); refine boW 49 _ rfl rfl rfl HM.out ?_; intro w9 n9 M)
        | ((with_reducible refine at_alloc 49 rfl ?_); refine alW 49 rfl rfl (zeroRJ _) HM.out ?_; intro w9 n9 M)); replace HM := Lib.hid M; clear M; clear fM; have fM := HM.out.fa)))
  clear fM
  refine nxt HM fun w1 M => ?_
  clear HM; have HM := M; clear M
  rw [← HEV.out]
  refine (rput_any w1 J cs e (HR.out.ext HM.out.extTo) HX.out.2.2.2.2.1).mono ?_
  rintro r w2 ⟨rfl, hE⟩
  replace HM := Lib.hid (HM.out.ext hE)
  clear hE
  by_cases hm : e ∈ J.put
  case neg =>
    have hq : lineR J p k e = (J, 401) := by unfold lineR; rw [if_neg HD.out, if_neg (show ¬ (k : Int) < (J.T.l.length : Int) by have := HG.out; omega), if_pos hm]
    rw [decide_eq_false hm]
    have HQ := Lib.hid hq
    clear hq hm
    have fM := HM.out.fa
    go_wp2_with (first
      | ((with_reducible refine at_list ?_); first
        | ((with_reducible refine at_load 49 _ rfl ?_); refine ldW 49 _ rfl rfl rfl HM.out Tryd.underlying49 rfl infoRJ ?_)
        | ((first
          | ((with_reducible refine at_store 49 _ _ rfl ?_); refine stW 49 _ _ rfl rfl rfl rfl HM.out infoRJ ?_; intro w9 M)
          | ((with_reducible refine at_box 49 _ rfl ?_); refine boW 49 _ rfl rfl rfl HM.out ?_; intro w9 n9 M)
          | ((with_reducible refine at_alloc 49 rfl ?_); refine alW 49 rfl rfl (zeroRJ _) HM.out ?_; intro w9 n9 M)); replace HM := Lib.hid M; clear M; clear fM; have fM := HM.out.fa)))
    all_goals clear fM
    refine bodyPost_ret (rtW 49 Tryd.results25 _ rfl HM.out Tryd.underlying49 rfl infoRJ) rfl ?_
    rw [HQ.out]
    refine ⟨_, rfl, ((HR.out).ext ?_).mono (fun k hk => .inl hk), ?_⟩ <;> (apply Mem.extTo; exact HM.out.to)
  rw [decide_eq_true hm]
  have HMM := Lib.hid hm
  have hq0 : lineR J p k e = if J.T.slot < 4096 ∧ (enB e && (countsR J.T e).2) = true then ({ J with T := J.T.put e, told := J.told.set p ((k : Int) + 1) }, 0) else (J, 402) := by
    unfold lineR; rw [if_neg HD.out, if_neg (show ¬ (k : Int) < (J.T.l.length : Int) by have := HG.out; omega), if_neg (fun h => h hm)]
  have HQ0 := Lib.hid hq0
  clear hm hq0
  by_cases h4 : J.T.slot < 4096
  case neg =>
    have hq : ¬ (J.T.slot < 4096 ∧ (enB e && (countsR J.T e).2) = true) := fun h => h4 h.1
    have HQ := Lib.hid (HQ0.out.trans (if_neg hq))
    clear hq
    have fM := HM.out.fa
    go_wp2_with (first
      | ((with_reducible refine at_list ?_); first
        | ((with_reducible refine at_load 49 _ rfl ?_); refine ldW 49 _ rfl rfl rfl HM.out Tryd.underlying49 rfl infoRJ ?_)
        | ((first
          | ((with_reducible refine at_store 49 _ _ rfl ?_); refine stW 49 _ _ rfl rfl rfl rfl HM.out infoRJ ?_; intro w9 M)
          | ((with_reducible refine at_box 49 _ rfl ?_); refine boW 49 _ rfl rfl rfl HM.out ?_; intro w9 n9 M)
          | ((with_reducible refine at_alloc 49 rfl ?_); refine alW 49 rfl rfl (zeroRJ _) HM.out ?_; intro w9 n9 M)); replace HM := Lib.hid M; clear M; clear fM; have fM := HM.out.fa)))
    all_goals clear fM
    refine bodyPost_ret (rtW 49 Tryd.results25 _ rfl HM.out Tryd.underlying49 rfl infoRJ) rfl ?_
    rw [HQ.out]
    refine ⟨_, rfl, ((HR.out).ext ?_).mono (fun k hk => .inl hk), ?_⟩ <;> (apply Mem.extTo; exact HM.out.to)
  have H4 := Lib.hid h4
  have fM := HM.out.fa
  go_wp2_with (first
    | ((with_reducible refine at_list ?_); first
      | ((with_reducible refine at_load 49 _ rfl ?_); refine ldW 49 _ rfl rfl rfl HM.out Tryd.underlying49 rfl infoRJ ?_)
      | ((first
        | ((with_reducible refine at_store 49 _ _ rfl ?_); refine stW 49 _ _ rfl rfl rfl rfl HM.out infoRJ ?_; intro w9 M)
        | ((with_reducible refine at_box 49 _ rfl ?_); refine boW 49 _ rfl rfl rfl HM.out ?_; intro w9 n9 M)
        | ((with_reducible refine at_alloc 49 rfl ?_); refine alW 49 rfl rfl (zeroRJ _) HM.out ?_; intro w9 n9 M)); replace HM := Lib.hid M; clear M; clear fM; have fM := HM.out.fa)))
  all_goals clear fM
  refine nxt HM fun w3 M => ?_
  clear HM; have HM := M; clear M
  rw [← HEV.out]
  refine (rwould_any w3 _ J.T.slot J.T e (HV.out.ext HM.out.extTo) HX.out.1 HX.out.2.2.1 HX.out.2.2.2.1).mono ?_
  rintro r w4 ⟨rfl, hE⟩
  replace HM := Lib.hid (HM.out.ext hE)
  clear hE h4
  cases hb : enB e && (countsR J.T e).2
  · have hq : ¬ (J.T.slot < 4096 ∧ (enB e && (countsR J.T e).2) = true) := fun h => by rw [hb] at h; cases h.2
    have HQ := Lib.hid (HQ0.out.trans (if_neg hq))
    clear hq hb
    have fM := HM.out.fa
    go_wp2_with (first
      | ((with_reducible refine at_list ?_); first
        | ((with_reducible refine at_load 49 _ rfl ?_); refine ldW 49 _ rfl rfl rfl HM.out Tryd.underlying49 rfl infoRJ ?_)
        | ((first
          | ((with_reducible refine at_store 49 _ _ rfl ?_); refine stW 49 _ _ rfl rfl rfl rfl HM.out infoRJ ?_; intro w9 M)
          | ((with_reducible refine at_box 49 _ rfl ?_); refine boW 49 _ rfl rfl rfl HM.out ?_; intro w9 n9 M)
          | ((with_reducible refine at_alloc 49 rfl ?_); refine alW 49 rfl rfl (zeroRJ _) HM.out ?_; intro w9 n9 M)); replace HM := Lib.hid M; clear M; clear fM; have fM := HM.out.fa)))
    all_goals clear fM
    refine bodyPost_ret (rtW 49 Tryd.results25 _ rfl HM.out Tryd.underlying49 rfl infoRJ) rfl ?_
    rw [HQ.out]
    refine ⟨_, rfl, ((HR.out).ext ?_).mono (fun k hk => .inl hk), ?_⟩ <;> (apply Mem.extTo; exact HM.out.to)
  have hq : (J.T.slot < 4096 ∧ (enB e && (countsR J.T e).2) = true) := ⟨H4.out, hb⟩
  have HQ := Lib.hid (HQ0.out.trans (if_pos hq))
  have HB := Lib.hid hb
  clear hq hb
  have fM := HM.out.fa
  go_wp2_with (first
    | ((with_reducible refine at_list ?_); first
      | ((with_reducible refine at_load 49 _ rfl ?_); refine ldW 49 _ rfl rfl rfl HM.out Tryd.underlying49 rfl infoRJ ?_)
      | ((first
        | ((with_reducible refine at_store 49 _ _ rfl ?_); refine stW 49 _ _ rfl rfl rfl rfl HM.out infoRJ ?_; intro w9 M)
        | ((with_reducible refine at_box 49 _ rfl ?_); refine boW 49 _ rfl rfl rfl HM.out ?_; intro w9 n9 M)
        | ((with_reducible refine at_alloc 49 rfl ?_); refine alW 49 rfl rfl (zeroRJ _) HM.out ?_; intro w9 n9 M)); replace HM := Lib.hid M; clear M; clear fM; have fM := HM.out.fa)))
  all_goals clear fM
  refine nxt HM fun w5 M => ?_
  clear HM; have HM := M; clear M
  rw [← HEV.out]
  have hb2 := HB.out
  rw [Bool.and_eq_true] at hb2
  refine (rapply_any w5 _ J.T e (HV.out.ext HM.out.extTo) HX.out.1 HX.out.2.2.1 HX.out.2.2.2.1 hb2.1 hb2.2 HX.out.2.1 H4.out).mono ?_
  rintro r w6 ⟨v', rfl, hrow, hE⟩
  have HM5 := HM
  replace HM := Lib.hid (HM.out.newRow hE hrow)
  obtain ⟨av, cv, rfl⟩ := hrow.len
  have HS5 := Lib.hid HM5.out.extTo.size
  have HRW := Lib.hid hrow
  clear hE hrow hb2
  have fM := HM.out.fa
  go_wp2_with (first
    | ((with_reducible refine at_list ?_); first
      | ((with_reducible refine at_load 49 _ rfl ?_); refine ldW 49 _ rfl rfl rfl HM.out Tryd.underlying49 rfl infoRJ ?_)
      | ((first
        | ((with_reducible refine at_store 49 _ _ rfl ?_); refine stW 49 _ _ rfl rfl rfl rfl HM.out infoRJ ?_; intro w9 M)
        | ((with_reducible refine at_box 49 _ rfl ?_); refine boW 49 _ rfl rfl rfl HM.out ?_; intro w9 n9 M)
        | ((with_reducible refine at_alloc 49 rfl ?_); refine alW 49 rfl rfl (zeroRJ _) HM.out ?_; intro w9 n9 M)); replace HM := Lib.hid M; clear M; clear fM; have fM := HM.out.fa)))
  all_goals clear fM
  have hU := (HM.out.pick (r := rowR lnE (.slice av (J.T.put e).l.length cv) (J.T.put e).l) (by with_reducible repeat first | exact ph | apply pt)).upd.row
  refine bodyPost_ret (rtW 49 Tryd.results25 _ rfl HM.out Tryd.underlying49 rfl infoRJ) rfl ?_
  rw [HQ.out]
  exact ⟨_, rfl, (((HR.out.ext hU.2).mono (fun k hk => Or.inl hk)).setT _ (J.T.put e) (hU.1.mono (Nat.zero_le _)) (fun k hk => .inr (Win.block hU.1 k hk).1)).setTold p HP.out _, hU.2⟩
end Go.Proofs.YthhdgjofagdjeaaDoor
end
section
/- The document's judge sees a thing. Condition: the judge reads as 'RefAt' says, and is such as came by things seen. -/
set_option linter.unusedVariables false
set_option linter.unusedSimpArgs false
set_option maxHeartbeats 4000000
set_option maxRecDepth 100000
namespace Go.Proofs.YthhdgjofagdjeaaDoor
open Go.RowKit Go.Shelf
/-- blocks that were made between two moments -/
def Since (a b : Nat) : Nat → Prop := fun k => a ≤ k ∧ k < b
theorem Mem.restart {w w2 w3 : World} {L : List Res} (h : Mem NoB w w2 L) (e : Ext w2 w3) : Mem (Since w.heap.size w2.heap.size) w3 w3 L := by
  obtain ⟨a, G, b, c⟩ := h
  have hlt := b.lt
  refine ⟨Keeps.refl _ _, G, b.keeps e fun _ _ => noB _, fun k hk => .inl ⟨?_, hlt k hk⟩⟩
  rcases c k hk with h | h
  · exact (noB _ h).elim
  · exact h
theorem kindsR_bad (J : JA) (x : Sn) (h : (kindsR J x).2 ≠ 0) : (kindsR J x).1 = J := by
  unfold kindsR at h ⊢
  split
  · rename_i hk; rw [if_pos hk] at h; unfold putR at h ⊢; split
    · rename_i hh; rw [if_pos hh] at h; exact absurd rfl h
    · rfl
  rename_i h1; rw [if_neg h1] at h
  split
  · rename_i hk; rw [if_pos hk] at h; unfold lineR at h ⊢
    split
    · rfl
    rename_i h3; rw [if_neg h3] at h
    split
    · rename_i h4; rw [if_pos h4] at h
      split
      · rename_i h5; rw [if_pos h5] at h; exact absurd rfl h
      · rfl
    rename_i h4; rw [if_neg h4] at h
    split
    · rfl
    rename_i h5; rw [if_neg h5] at h
    split
    · rename_i h6; rw [if_pos h6] at h; exact absurd rfl h
    · rfl
  rename_i h2; rw [if_neg h2] at h
  split
  · rename_i hk; rw [if_pos hk] at h; unfold backR at h ⊢
    split
    · rfl
    rename_i h3; rw [if_neg h3] at h
    split
    · rfl
    rename_i h4; rw [if_neg h4] at h; exact absurd rfl h
  rename_i h3; rw [if_neg h3] at h
  split
  · rename_i hk; rw [if_pos hk] at h; unfold beganR at h ⊢
    split
    · rfl
    rename_i h4; rw [if_neg h4] at h
    split
    · rfl
    rename_i h5; rw [if_neg h5] at h
    split
    · rfl
    rename_i h6; rw [if_neg h6] at h; exact absurd rfl h
  rename_i h4; rw [if_neg h4] at h
  split
  · rename_i hk; rw [if_pos hk] at h; unfold toldR at h ⊢
    split
    · rfl
    rename_i h5; rw [if_neg h5] at h
    split
    · rfl
    rename_i h6; rw [if_neg h6] at h
    split
    · rfl
    rename_i h7; rw [if_neg h7] at h; exact absurd rfl h
  rename_i h5; rw [if_neg h5] at h
  unfold wentR at h ⊢
  split
  · rename_i h6; rw [if_pos h6] at h; exact absurd rfl h
  · rfl
theorem seeR_may {J : JA} {x : Sn} (h : mayE J x ≠ 0) : seeR J x = (J, mayE J x) := by unfold seeR; rw [if_neg h]
theorem seeR_ok {J : JA} {x : Sn} (h : mayE J x = 0) (h0 : (kindsR J x).2 = 0) : seeR J x = ((kindsR J x).1, 0) := by unfold seeR; rw [if_pos h, if_pos h0]
theorem seeR_bad {J : JA} {x : Sn} (h : mayE J x = 0) (h0 : (kindsR J x).2 ≠ 0) : seeR J x = ({ J with broken := wrap64 (J.broken + 1) }, (kindsR J x).2) := by unfold seeR; rw [if_pos h, if_neg h0, kindsR_bad J x h0]
/-- what a judge that came by things seen is -/
structure OkR (J : JA) : Prop extends OkJ J where
  st : J.T.Ok
  puts : J.put.length ≤ 1000000
/-- the contract of See -/
def SeeC (w : World) (A : Nat → Prop) (J : JA) (cs : List Value) (x : Sn) : Prop :=
  Calls Tryd.prog 13 #[.agg cs.toArray, x.v] w fun r w' => ∃ cs', r = .returned (.tuple #[.agg cs'.toArray, .int .i64 (seeR J x).2]) ∧ RefAt w' (fun k => A k ∨ w.heap.size ≤ k) (seeR J x).1 cs' ∧ Ext w w'
theorem rsee_may {A : Nat → Prop} (w : World) (J : JA) (cs : List Value) (x : Sn) (h : RefAt w A J cs) (hA : ∀ k, A k → k < w.heap.size) (hok : OkR J) (ht : x.e.text.length ≤ 500000) (hm : mayE J x ≠ 0) : SeeC w A J cs x := by
  have hlt0 : ∀ k, A k → k < w.heap.size := hA
  obtain ⟨al, cl, ap, cp, hlen, hone, -, -, -, c3, cT, -, c29, c30, hvl, hvp⟩ := h.open
  have HR := Lib.hid h
  have HV := Lib.hid hvp
  have HLEN := Lib.hid hlen
  have HONE := Lib.hid hone
  have HWD : Wd _ _ := ⟨HLEN.out, HONE.out⟩
  have HOK := Lib.hid hok
  have HTX := Lib.hid ht
  have HLT := Lib.hid hlt0
  have HM := Lib.hid (Mem.start0 w)
  have HQ := Lib.hid (seeR_may hm)
  have HXV := Lib.hid (show x.v = .agg #[.int .i64 x.kind, .int .i64 x.who, .int .i64 x.index, .int .i64 x.e.kind, .int .i64 x.e.member, .int .i64 x.e.number, .string (bs x.e.text)] from rfl)
  obtain ⟨m, hmm⟩ : ∃ m, mayE J x = m := ⟨_, rfl⟩
  rw [hmm] at hm HQ
  have HMM := Lib.hid hmm
  have hm' : (m != 0) = true := by simpa using hm
  clear h hA hok ht hlt0 hlen hone c3 cT c29 c30 hvl hvp hmm hm
  unfold SeeC
  rw [HXV.out]
  go_enter Tryd.func13, Tryd.ntmps13
  have fM := HM.out.fa
  go_wp2_with (first
    | ((with_reducible refine at_list ?_); first
      | ((with_reducible refine at_load 49 _ rfl ?_); refine ldW 49 _ rfl rfl rfl HM.out Tryd.underlying49 rfl infoRJ ?_)
      | ((first
        | ((with_reducible refine at_store 49 _ _ rfl ?_); refine stW 49 _ _ rfl rfl rfl rfl HM.out infoRJ ?_; intro w9 M)
        | ((with_reducible refine at_box 49 _ rfl ?_); refine boW 49 _ rfl rfl rfl HM.out ?_; intro w9 n9 M)
        | ((with_reducible refine at_alloc 49 rfl ?_); refine alW 49 rfl rfl (zeroRJ _) HM.out ?_; intro w9 n9 M)); replace HM := Lib.hid M; clear M; clear fM; have fM := HM.out.fa)))
  all_goals clear fM
  refine nxt HM fun w1 M => ?_
  clear HM; have HM := M; clear M
  rw [← HXV.out]
  refine (rmay_any w1 J cs x (HR.out.ext HM.out.extTo) HTX.out).mono ?_
  rintro r w2 ⟨rfl, hE⟩
  rw [HMM.out]
  replace HM := Lib.hid (HM.out.ext hE)
  clear hE
  have fM := HM.out.fa
  go_wp2_with (first
    | ((with_reducible refine at_list ?_); first
      | ((with_reducible refine at_load 49 _ rfl ?_); refine ldW 49 _ rfl rfl rfl HM.out Tryd.underlying49 rfl infoRJ ?_)
      | ((first
        | ((with_reducible refine at_store 49 _ _ rfl ?_); refine stW 49 _ _ rfl rfl rfl rfl HM.out infoRJ ?_; intro w9 M)
        | ((with_reducible refine at_box 49 _ rfl ?_); refine boW 49 _ rfl rfl rfl HM.out ?_; intro w9 n9 M)
        | ((with_reducible refine at_alloc 49 rfl ?_); refine alW 49 rfl rfl (zeroRJ _) HM.out ?_; intro w9 n9 M)); replace HM := Lib.hid M; clear M; clear fM; have fM := HM.out.fa)))
  all_goals clear fM
  refine bodyPost_ret (rtW 49 Tryd.results13 _ rfl HM.out Tryd.underlying49 rfl infoRJ) rfl ?_
  rw [HQ.out]
  refine ⟨_, rfl, ((HR.out).ext ?_).mono (fun k hk => .inl hk), ?_⟩ <;> (apply Mem.extTo; exact HM.out.to)
theorem rsee_6 {A : Nat → Prop} (w : World) (J : JA) (cs : List Value) (p : Nat) (index : Int) (e : En) (h : RefAt w A J cs) (hA : ∀ k, A k → k < w.heap.size) (hok : OkR J) (ht : e.text.length ≤ 500000) (hp : p < 16) (hm : mayE J ⟨6, p, index, e⟩ = 0) : SeeC w A J cs ⟨6, p, index, e⟩ := by
  have hlt0 : ∀ k, A k → k < w.heap.size := hA
  obtain ⟨al, cl, ap, cp, hlen, hone, -, -, -, c3, cT, -, c29, c30, hvl, hvp⟩ := h.open
  have HR := Lib.hid h
  have HV := Lib.hid hvp
  have HLEN := Lib.hid hlen
  have HONE := Lib.hid hone
  have HWD : Wd _ _ := ⟨HLEN.out, HONE.out⟩
  have HOK := Lib.hid hok
  have HTX := Lib.hid ht
  have HLT := Lib.hid hlt0
  have HM := Lib.hid (Mem.start0 w)
  have HP := Lib.hid hp
  clear hp
  have hkr : kindsR J ⟨6, p, index, e⟩ = wentR J p index := by simp [kindsR]
  have HKR := Lib.hid hkr
  clear hkr
  unfold SeeC
  have HXV := Lib.hid (show (⟨6, p, index, e⟩ : Sn).v = .agg #[.int .i64 6, .int .i64 (p : Int), .int .i64 index, .int .i64 e.kind, .int .i64 e.member, .int .i64 e.number, .string (bs e.text)] from rfl)
  rw [HXV.out]
  have HMM := Lib.hid hm
  clear h hA hok ht hlt0 hlen hone cT c29 hvl hvp hm
  go_enter Tryd.func13, Tryd.ntmps13
  have fM := HM.out.fa
  go_wp2_with (first
    | ((with_reducible refine at_list ?_); first
      | ((with_reducible refine at_load 49 _ rfl ?_); refine ldW 49 _ rfl rfl rfl HM.out Tryd.underlying49 rfl infoRJ ?_)
      | ((first
        | ((with_reducible refine at_store 49 _ _ rfl ?_); refine stW 49 _ _ rfl rfl rfl rfl HM.out infoRJ ?_; intro w9 M)
        | ((with_reducible refine at_box 49 _ rfl ?_); refine boW 49 _ rfl rfl rfl HM.out ?_; intro w9 n9 M)
        | ((with_reducible refine at_alloc 49 rfl ?_); refine alW 49 rfl rfl (zeroRJ _) HM.out ?_; intro w9 n9 M)); replace HM := Lib.hid M; clear M; clear fM; have fM := HM.out.fa)))
  all_goals clear fM
  refine nxt HM fun w1 M => ?_
  clear HM; have HM := M; clear M
  rw [← HXV.out]
  refine (rmay_any w1 J cs ⟨6, p, index, e⟩ (HR.out.ext HM.out.extTo) HTX.out).mono ?_
  rintro r w2 ⟨rfl, hE⟩
  rw [HMM.out]
  replace HM := Lib.hid (HM.out.ext hE)
  clear hE
  have fM := HM.out.fa
  go_wp2_with (first
    | ((with_reducible refine at_list ?_); first
      | ((with_reducible refine at_load 49 _ rfl ?_); refine ldW 49 _ rfl rfl rfl HM.out Tryd.underlying49 rfl infoRJ ?_)
      | ((first
        | ((with_reducible refine at_store 49 _ _ rfl ?_); refine stW 49 _ _ rfl rfl rfl rfl HM.out infoRJ ?_; intro w9 M)
        | ((with_reducible refine at_box 49 _ rfl ?_); refine boW 49 _ rfl rfl rfl HM.out ?_; intro w9 n9 M)
        | ((with_reducible refine at_alloc 49 rfl ?_); refine alW 49 rfl rfl (zeroRJ _) HM.out ?_; intro w9 n9 M)); replace HM := Lib.hid M; clear M; clear fM; have fM := HM.out.fa)))
  all_goals clear fM
  refine nxt HM fun w3 M => ?_
  clear HM; have HM := M; clear M
  rw [← HXV.out]
  refine (rwent_any w3 J cs p index e (HR.out.ext HM.out.extTo) HP.out).mono ?_
  rintro r w4 ⟨cs', rfl, hR', hE⟩
  obtain ⟨-, -, -, -, hlen', hone', -⟩ := hR'.open
  have HLEN1 := Lib.hid hlen'
  have HONE1 := Lib.hid hone'
  have HWD1 : Wd _ _ := ⟨HLEN1.out, HONE1.out⟩
  have HR1 := Lib.hid hR'
  have HE4 := Lib.hid (HM.out.extTo.ext hE)
  have H3 := Lib.hid HM.out.extTo.size
  replace HM := Lib.hid (Mem.restart HM.out hE)
  obtain ⟨z, hz⟩ : ∃ z, (wentR J p index).2 = z := ⟨_, rfl⟩
  rw [hz]
  have HZ := Lib.hid hz
  clear hE hR' hlen' hone' hz
  by_cases h0 : z = 0
  · have HQ : Hid (seeR J ⟨6, p, index, e⟩ = ((wentR J p index).1, 0)) := Lib.hid (by rw [seeR_ok HMM.out (by rw [HKR.out, HZ.out]; exact h0), HKR.out])
    subst h0
    have fM := HM.out.fa
    go_wp2_with (first
      | ((with_reducible refine at_list ?_); first
        | ((with_reducible refine at_load 49 _ rfl ?_); refine ldW 49 _ rfl rfl rfl HM.out Tryd.underlying49 rfl infoRJ ?_)
        | ((first
          | ((with_reducible refine at_store 49 _ _ rfl ?_); refine stW 49 _ _ rfl rfl rfl rfl HM.out infoRJ ?_; intro w9 M)
          | ((with_reducible refine at_box 49 _ rfl ?_); refine boW 49 _ rfl rfl rfl HM.out ?_; intro w9 n9 M)
          | ((with_reducible refine at_alloc 49 rfl ?_); refine alW 49 rfl rfl (zeroRJ _) HM.out ?_; intro w9 n9 M)); replace HM := Lib.hid M; clear M; clear fM; have fM := HM.out.fa)))
    all_goals clear fM
    refine nxt HM fun w5 M => ?_
    clear HM; have HM := M; clear M
    refine bodyPost_ret (rtW 49 Tryd.results13 _ rfl HM.out Tryd.underlying49 rfl infoRJ) rfl ?_
    rw [HQ.out]
    have h3 := H3.out
    have hl := HLT.out
    refine ⟨_, rfl, (RefAt.keeps HR1.out HM.out.keepsTo fun k hk h9 => ?_).mono fun k hk => ?_, HE4.out.then HM.out.keepsTo fun k hk h9 => absurd h9.1 (by omega)⟩
    · obtain ⟨h91, h92⟩ := h9
      have := hl k hk; omega
    · exact .inl hk
  · have h0' : (z != 0) = true := by simpa using h0
    have HQ : Hid (seeR J ⟨6, p, index, e⟩ = ({ J with broken := wrap64 (J.broken + 1) }, z)) := Lib.hid (by rw [seeR_bad HMM.out (by rw [HKR.out, HZ.out]; exact h0), HKR.out, HZ.out])
    clear h0
    have fM := HM.out.fa
    go_wp2_with (first
      | ((with_reducible refine at_list ?_); first
        | ((with_reducible refine at_load 49 _ rfl ?_); refine ldW 49 _ rfl rfl rfl HM.out Tryd.underlying49 rfl infoRJ ?_)
        | ((first
          | ((with_reducible refine at_store 49 _ _ rfl ?_); refine stW 49 _ _ rfl rfl rfl rfl HM.out infoRJ ?_; intro w9 M)
          | ((with_reducible refine at_box 49 _ rfl ?_); refine boW 49 _ rfl rfl rfl HM.out ?_; intro w9 n9 M)
          | ((with_reducible refine at_alloc 49 rfl ?_); refine alW 49 rfl rfl (zeroRJ _) HM.out ?_; intro w9 n9 M)); replace HM := Lib.hid M; clear M; clear fM; have fM := HM.out.fa)))
    all_goals clear fM
    refine nxt HM fun w5 M => ?_
    clear HM; have HM := M; clear M
    refine bodyPost_ret (rtW 49 Tryd.results13 _ rfl HM.out Tryd.underlying49 rfl infoRJ) rfl ?_
    rw [HQ.out]
    have HE5 := HE4.out.then HM.out.keepsTo fun k hk h9 => absurd h9.1 (by omega)
    exact ⟨_, rfl, ((HR.out.setBroken (wrap64 (J.broken + 1))).ext HE5).mono (fun k hk => .inl hk), HE5⟩
theorem OkR.len {J : JA} (h : OkR J) : J.T.l.length ≤ 4096 := by have := h.slot; have := h.slot4; omega
theorem rsee_4 {A : Nat → Prop} (w : World) (J : JA) (cs : List Value) (p : Nat) (index : Int) (e : En) (h : RefAt w A J cs) (hA : ∀ k, A k → k < w.heap.size) (hok : OkR J) (ht : e.text.length ≤ 500000) (hp : p < 16) (hi : 0 ≤ index) (hm : mayE J ⟨4, p, index, e⟩ = 0) : SeeC w A J cs ⟨4, p, index, e⟩ := by
  have hlt0 : ∀ k, A k → k < w.heap.size := hA
  obtain ⟨al, cl, ap, cp, hlen, hone, -, -, -, c3, cT, -, c29, c30, hvl, hvp⟩ := h.open
  have HR := Lib.hid h
  have HV := Lib.hid hvp
  have HLEN := Lib.hid hlen
  have HONE := Lib.hid hone
  have HWD : Wd _ _ := ⟨HLEN.out, HONE.out⟩
  have HOK := Lib.hid hok
  have HTX := Lib.hid ht
  have HLT := Lib.hid hlt0
  have HM := Lib.hid (Mem.start0 w)
  have HP := Lib.hid hp
  have HI := Lib.hid hi
  clear hp hi
  have hkr : kindsR J ⟨4, p, index, e⟩ = beganR J p index := by simp [kindsR]
  have HKR := Lib.hid hkr
  clear hkr
  unfold SeeC
  have HXV := Lib.hid (show (⟨4, p, index, e⟩ : Sn).v = .agg #[.int .i64 4, .int .i64 (p : Int), .int .i64 index, .int .i64 e.kind, .int .i64 e.member, .int .i64 e.number, .string (bs e.text)] from rfl)
  rw [HXV.out]
  have HMM := Lib.hid hm
  clear h hA hok ht hlt0 hlen hone cT c29 hvl hvp hm
  go_enter Tryd.func13, Tryd.ntmps13
  have fM := HM.out.fa
  go_wp2_with (first
    | ((with_reducible refine at_list ?_); first
      | ((with_reducible refine at_load 49 _ rfl ?_); refine ldW 49 _ rfl rfl rfl HM.out Tryd.underlying49 rfl infoRJ ?_)
      | ((first
        | ((with_reducible refine at_store 49 _ _ rfl ?_); refine stW 49 _ _ rfl rfl rfl rfl HM.out infoRJ ?_; intro w9 M)
        | ((with_reducible refine at_box 49 _ rfl ?_); refine boW 49 _ rfl rfl rfl HM.out ?_; intro w9 n9 M)
        | ((with_reducible refine at_alloc 49 rfl ?_); refine alW 49 rfl rfl (zeroRJ _) HM.out ?_; intro w9 n9 M)); replace HM := Lib.hid M; clear M; clear fM; have fM := HM.out.fa)))
  all_goals clear fM
  refine nxt HM fun w1 M => ?_
  clear HM; have HM := M; clear M
  rw [← HXV.out]
  refine (rmay_any w1 J cs ⟨4, p, index, e⟩ (HR.out.ext HM.out.extTo) HTX.out).mono ?_
  rintro r w2 ⟨rfl, hE⟩
  rw [HMM.out]
  replace HM := Lib.hid (HM.out.ext hE)
  clear hE
  have fM := HM.out.fa
  go_wp2_with (first
    | ((with_reducible refine at_list ?_); first
      | ((with_reducible refine at_load 49 _ rfl ?_); refine ldW 49 _ rfl rfl rfl HM.out Tryd.underlying49 rfl infoRJ ?_)
      | ((first
        | ((with_reducible refine at_store 49 _ _ rfl ?_); refine stW 49 _ _ rfl rfl rfl rfl HM.out infoRJ ?_; intro w9 M)
        | ((with_reducible refine at_box 49 _ rfl ?_); refine boW 49 _ rfl rfl rfl HM.out ?_; intro w9 n9 M)
        | ((with_reducible refine at_alloc 49 rfl ?_); refine alW 49 rfl rfl (zeroRJ _) HM.out ?_; intro w9 n9 M)); replace HM := Lib.hid M; clear M; clear fM; have fM := HM.out.fa)))
  all_goals clear fM
  refine nxt HM fun w3 M => ?_
  clear HM; have HM := M; clear M
  rw [← HXV.out]
  refine (rbegan_any w3 J cs p index e (HR.out.ext HM.out.extTo) HP.out HI.out HOK.out.len).mono ?_
  rintro r w4 ⟨cs', rfl, hR', hE⟩
  obtain ⟨-, -, -, -, hlen', hone', -⟩ := hR'.open
  have HLEN1 := Lib.hid hlen'
  have HONE1 := Lib.hid hone'
  have HWD1 : Wd _ _ := ⟨HLEN1.out, HONE1.out⟩
  have HR1 := Lib.hid hR'
  have HE4 := Lib.hid (HM.out.extTo.ext hE)
  have H3 := Lib.hid HM.out.extTo.size
  replace HM := Lib.hid (Mem.restart HM.out hE)
  obtain ⟨z, hz⟩ : ∃ z, (beganR J p index).2 = z := ⟨_, rfl⟩
  rw [hz]
  have HZ := Lib.hid hz
  clear hE hR' hlen' hone' hz
  by_cases h0 : z = 0
  · have HQ : Hid (seeR J ⟨4, p, index, e⟩ = ((beganR J p index).1, 0)) := Lib.hid (by rw [seeR_ok HMM.out (by rw [HKR.out, HZ.out]; exact h0), HKR.out])
    subst h0
    have fM := HM.out.fa
    go_wp2_with (first
      | ((with_reducible refine at_list ?_); first
        | ((with_reducible refine at_load 49 _ rfl ?_); refine ldW 49 _ rfl rfl rfl HM.out Tryd.underlying49 rfl infoRJ ?_)
        | ((first
          | ((with_reducible refine at_store 49 _ _ rfl ?_); refine stW 49 _ _ rfl rfl rfl rfl HM.out infoRJ ?_; intro w9 M)
          | ((with_reducible refine at_box 49 _ rfl ?_); refine boW 49 _ rfl rfl rfl HM.out ?_; intro w9 n9 M)
          | ((with_reducible refine at_alloc 49 rfl ?_); refine alW 49 rfl rfl (zeroRJ _) HM.out ?_; intro w9 n9 M)); replace HM := Lib.hid M; clear M; clear fM; have fM := HM.out.fa)))
    all_goals clear fM
    refine nxt HM fun w5 M => ?_
    clear HM; have HM := M; clear M
    refine bodyPost_ret (rtW 49 Tryd.results13 _ rfl HM.out Tryd.underlying49 rfl infoRJ) rfl ?_
    rw [HQ.out]
    have h3 := H3.out
    have hl := HLT.out
    refine ⟨_, rfl, (RefAt.keeps HR1.out HM.out.keepsTo fun k hk h9 => ?_).mono fun k hk => ?_, HE4.out.then HM.out.keepsTo fun k hk h9 => absurd h9.1 (by omega)⟩
    · obtain ⟨h91, h92⟩ := h9
      have := hl k hk; omega
    · exact .inl hk
  · have h0' : (z != 0) = true := by simpa using h0
    have HQ : Hid (seeR J ⟨4, p, index, e⟩ = ({ J with broken := wrap64 (J.broken + 1) }, z)) := Lib.hid (by rw [seeR_bad HMM.out (by rw [HKR.out, HZ.out]; exact h0), HKR.out, HZ.out])
    clear h0
    have fM := HM.out.fa
    go_wp2_with (first
      | ((with_reducible refine at_list ?_); first
        | ((with_reducible refine at_load 49 _ rfl ?_); refine ldW 49 _ rfl rfl rfl HM.out Tryd.underlying49 rfl infoRJ ?_)
        | ((first
          | ((with_reducible refine at_store 49 _ _ rfl ?_); refine stW 49 _ _ rfl rfl rfl rfl HM.out infoRJ ?_; intro w9 M)
          | ((with_reducible refine at_box 49 _ rfl ?_); refine boW 49 _ rfl rfl rfl HM.out ?_; intro w9 n9 M)
          | ((with_reducible refine at_alloc 49 rfl ?_); refine alW 49 rfl rfl (zeroRJ _) HM.out ?_; intro w9 n9 M)); replace HM := Lib.hid M; clear M; clear fM; have fM := HM.out.fa)))
    all_goals clear fM
    refine nxt HM fun w5 M => ?_
    clear HM; have HM := M; clear M
    refine bodyPost_ret (rtW 49 Tryd.results13 _ rfl HM.out Tryd.underlying49 rfl infoRJ) rfl ?_
    rw [HQ.out]
    have HE5 := HE4.out.then HM.out.keepsTo fun k hk h9 => absurd h9.1 (by omega)
    exact ⟨_, rfl, ((HR.out.setBroken (wrap64 (J.broken + 1))).ext HE5).mono (fun k hk => .inl hk), HE5⟩
theorem rsee_5 {A : Nat → Prop} (w : World) (J : JA) (cs : List Value) (p : Nat) (index : Int) (e : En) (h : RefAt w A J cs) (hA : ∀ k, A k → k < w.heap.size) (hok : OkR J) (ht : e.text.length ≤ 500000) (hp : p < 16) (hi : 0 ≤ index) (hm : mayE J ⟨5, p, index, e⟩ = 0) : SeeC w A J cs ⟨5, p, index, e⟩ := by
  have hlt0 : ∀ k, A k → k < w.heap.size := hA
  obtain ⟨al, cl, ap, cp, hlen, hone, -, -, -, c3, cT, -, c29, c30, hvl, hvp⟩ := h.open
  have HR := Lib.hid h
  have HV := Lib.hid hvp
  have HLEN := Lib.hid hlen
  have HONE := Lib.hid hone
  have HWD : Wd _ _ := ⟨HLEN.out, HONE.out⟩
  have HOK := Lib.hid hok
  have HTX := Lib.hid ht
  have HLT := Lib.hid hlt0
  have HM := Lib.hid (Mem.start0 w)
  have HP := Lib.hid hp
  have HI := Lib.hid hi
  clear hp hi
  have hkr : kindsR J ⟨5, p, index, e⟩ = toldR J p index e := by simp [kindsR]
  have HKR := Lib.hid hkr
  clear hkr
  unfold SeeC
  have HXV := Lib.hid (show (⟨5, p, index, e⟩ : Sn).v = .agg #[.int .i64 5, .int .i64 (p : Int), .int .i64 index, .int .i64 e.kind, .int .i64 e.member, .int .i64 e.number, .string (bs e.text)] from rfl)
  rw [HXV.out]
  have HMM := Lib.hid hm
  clear h hA hok ht hlt0 hlen hone cT c29 hvl hvp hm
  go_enter Tryd.func13, Tryd.ntmps13
  have fM := HM.out.fa
  go_wp2_with (first
    | ((with_reducible refine at_list ?_); first
      | ((with_reducible refine at_load 49 _ rfl ?_); refine ldW 49 _ rfl rfl rfl HM.out Tryd.underlying49 rfl infoRJ ?_)
      | ((first
        | ((with_reducible refine at_store 49 _ _ rfl ?_); refine stW 49 _ _ rfl rfl rfl rfl HM.out infoRJ ?_; intro w9 M)
        | ((with_reducible refine at_box 49 _ rfl ?_); refine boW 49 _ rfl rfl rfl HM.out ?_; intro w9 n9 M)
        | ((with_reducible refine at_alloc 49 rfl ?_); refine alW 49 rfl rfl (zeroRJ _) HM.out ?_; intro w9 n9 M)); replace HM := Lib.hid M; clear M; clear fM; have fM := HM.out.fa)))
  all_goals clear fM
  refine nxt HM fun w1 M => ?_
  clear HM; have HM := M; clear M
  rw [← HXV.out]
  refine (rmay_any w1 J cs ⟨5, p, index, e⟩ (HR.out.ext HM.out.extTo) HTX.out).mono ?_
  rintro r w2 ⟨rfl, hE⟩
  rw [HMM.out]
  replace HM := Lib.hid (HM.out.ext hE)
  clear hE
  have fM := HM.out.fa
  go_wp2_with (first
    | ((with_reducible refine at_list ?_); first
      | ((with_reducible refine at_load 49 _ rfl ?_); refine ldW 49 _ rfl rfl rfl HM.out Tryd.underlying49 rfl infoRJ ?_)
      | ((first
        | ((with_reducible refine at_store 49 _ _ rfl ?_); refine stW 49 _ _ rfl rfl rfl rfl HM.out infoRJ ?_; intro w9 M)
        | ((with_reducible refine at_box 49 _ rfl ?_); refine boW 49 _ rfl rfl rfl HM.out ?_; intro w9 n9 M)
        | ((with_reducible refine at_alloc 49 rfl ?_); refine alW 49 rfl rfl (zeroRJ _) HM.out ?_; intro w9 n9 M)); replace HM := Lib.hid M; clear M; clear fM; have fM := HM.out.fa)))
  all_goals clear fM
  refine nxt HM fun w3 M => ?_
  clear HM; have HM := M; clear M
  rw [← HXV.out]
  refine (rtold_any w3 J cs p index e (HR.out.ext HM.out.extTo) HP.out HI.out HOK.out.len).mono ?_
  rintro r w4 ⟨cs', rfl, hR', hE⟩
  obtain ⟨-, -, -, -, hlen', hone', -⟩ := hR'.open
  have HLEN1 := Lib.hid hlen'
  have HONE1 := Lib.hid hone'
  have HWD1 : Wd _ _ := ⟨HLEN1.out, HONE1.out⟩
  have HR1 := Lib.hid hR'
  have HE4 := Lib.hid (HM.out.extTo.ext hE)
  have H3 := Lib.hid HM.out.extTo.size
  replace HM := Lib.hid (Mem.restart HM.out hE)
  obtain ⟨z, hz⟩ : ∃ z, (toldR J p index e).2 = z := ⟨_, rfl⟩
  rw [hz]
  have HZ := Lib.hid hz
  clear hE hR' hlen' hone' hz
  by_cases h0 : z = 0
  · have HQ : Hid (seeR J ⟨5, p, index, e⟩ = ((toldR J p index e).1, 0)) := Lib.hid (by rw [seeR_ok HMM.out (by rw [HKR.out, HZ.out]; exact h0), HKR.out])
    subst h0
    have fM := HM.out.fa
    go_wp2_with (first
      | ((with_reducible refine at_list ?_); first
        | ((with_reducible refine at_load 49 _ rfl ?_); refine ldW 49 _ rfl rfl rfl HM.out Tryd.underlying49 rfl infoRJ ?_)
        | ((first
          | ((with_reducible refine at_store 49 _ _ rfl ?_); refine stW 49 _ _ rfl rfl rfl rfl HM.out infoRJ ?_; intro w9 M)
          | ((with_reducible refine at_box 49 _ rfl ?_); refine boW 49 _ rfl rfl rfl HM.out ?_; intro w9 n9 M)
          | ((with_reducible refine at_alloc 49 rfl ?_); refine alW 49 rfl rfl (zeroRJ _) HM.out ?_; intro w9 n9 M)); replace HM := Lib.hid M; clear M; clear fM; have fM := HM.out.fa)))
    all_goals clear fM
    refine nxt HM fun w5 M => ?_
    clear HM; have HM := M; clear M
    refine bodyPost_ret (rtW 49 Tryd.results13 _ rfl HM.out Tryd.underlying49 rfl infoRJ) rfl ?_
    rw [HQ.out]
    have h3 := H3.out
    have hl := HLT.out
    refine ⟨_, rfl, (RefAt.keeps HR1.out HM.out.keepsTo fun k hk h9 => ?_).mono fun k hk => ?_, HE4.out.then HM.out.keepsTo fun k hk h9 => absurd h9.1 (by omega)⟩
    · obtain ⟨h91, h92⟩ := h9
      have := hl k hk; omega
    · exact .inl hk
  · have h0' : (z != 0) = true := by simpa using h0
    have HQ : Hid (seeR J ⟨5, p, index, e⟩ = ({ J with broken := wrap64 (J.broken + 1) }, z)) := Lib.hid (by rw [seeR_bad HMM.out (by rw [HKR.out, HZ.out]; exact h0), HKR.out, HZ.out])
    clear h0
    have fM := HM.out.fa
    go_wp2_with (first
      | ((with_reducible refine at_list ?_); first
        | ((with_reducible refine at_load 49 _ rfl ?_); refine ldW 49 _ rfl rfl rfl HM.out Tryd.underlying49 rfl infoRJ ?_)
        | ((first
          | ((with_reducible refine at_store 49 _ _ rfl ?_); refine stW 49 _ _ rfl rfl rfl rfl HM.out infoRJ ?_; intro w9 M)
          | ((with_reducible refine at_box 49 _ rfl ?_); refine boW 49 _ rfl rfl rfl HM.out ?_; intro w9 n9 M)
          | ((with_reducible refine at_alloc 49 rfl ?_); refine alW 49 rfl rfl (zeroRJ _) HM.out ?_; intro w9 n9 M)); replace HM := Lib.hid M; clear M; clear fM; have fM := HM.out.fa)))
    all_goals clear fM
    refine nxt HM fun w5 M => ?_
    clear HM; have HM := M; clear M
    refine bodyPost_ret (rtW 49 Tryd.results13 _ rfl HM.out Tryd.underlying49 rfl infoRJ) rfl ?_
    rw [HQ.out]
    have HE5 := HE4.out.then HM.out.keepsTo fun k hk h9 => absurd h9.1 (by omega)
    exact ⟨_, rfl, ((HR.out.setBroken (wrap64 (J.broken + 1))).ext HE5).mono (fun k hk => .inl hk), HE5⟩
theorem rsee_2 {A : Nat → Prop} (w : World) (J : JA) (cs : List Value) (p : Nat) (index : Int) (e : En) (h : RefAt w A J cs) (hA : ∀ k, A k → k < w.heap.size) (hok : OkR J) (ht : e.text.length ≤ 500000) (hp : p < 9) (hi : 0 ≤ index) (hm : mayE J ⟨2, p, index, e⟩ = 0) : SeeC w A J cs ⟨2, p, index, e⟩ := by
  have hlt0 : ∀ k, A k → k < w.heap.size := hA
  obtain ⟨al, cl, ap, cp, hlen, hone, -, -, -, c3, cT, -, c29, c30, hvl, hvp⟩ := h.open
  have HR := Lib.hid h
  have HV := Lib.hid hvp
  have HLEN := Lib.hid hlen
  have HONE := Lib.hid hone
  have HWD : Wd _ _ := ⟨HLEN.out, HONE.out⟩
  have HOK := Lib.hid hok
  have HTX := Lib.hid ht
  have HLT := Lib.hid hlt0
  have HM := Lib.hid (Mem.start0 w)
  have HP := Lib.hid hp
  have HI := Lib.hid hi
  clear hp hi
  have hkr : kindsR J ⟨2, p, index, e⟩ = lineR J p index e := by simp [kindsR]
  have HKR := Lib.hid hkr
  clear hkr
  unfold SeeC
  have HXV := Lib.hid (show (⟨2, p, index, e⟩ : Sn).v = .agg #[.int .i64 2, .int .i64 (p : Int), .int .i64 index, .int .i64 e.kind, .int .i64 e.member, .int .i64 e.number, .string (bs e.text)] from rfl)
  rw [HXV.out]
  have HMM := Lib.hid hm
  clear h hA hok ht hlt0 hlen hone cT c29 hvl hvp hm
  go_enter Tryd.func13, Tryd.ntmps13
  have fM := HM.out.fa
  go_wp2_with (first
    | ((with_reducible refine at_list ?_); first
      | ((with_reducible refine at_load 49 _ rfl ?_); refine ldW 49 _ rfl rfl rfl HM.out Tryd.underlying49 rfl infoRJ ?_)
      | ((first
        | ((with_reducible refine at_store 49 _ _ rfl ?_); refine stW 49 _ _ rfl rfl rfl rfl HM.out infoRJ ?_; intro w9 M)
        | ((with_reducible refine at_box 49 _ rfl ?_); refine boW 49 _ rfl rfl rfl HM.out ?_; intro w9 n9 M)
        | ((with_reducible refine at_alloc 49 rfl ?_); refine alW 49 rfl rfl (zeroRJ _) HM.out ?_; intro w9 n9 M)); replace HM := Lib.hid M; clear M; clear fM; have fM := HM.out.fa)))
  all_goals clear fM
  refine nxt HM fun w1 M => ?_
  clear HM; have HM := M; clear M
  rw [← HXV.out]
  refine (rmay_any w1 J cs ⟨2, p, index, e⟩ (HR.out.ext HM.out.extTo) HTX.out).mono ?_
  rintro r w2 ⟨rfl, hE⟩
  rw [HMM.out]
  replace HM := Lib.hid (HM.out.ext hE)
  clear hE
  have fM := HM.out.fa
  go_wp2_with (first
    | ((with_reducible refine at_list ?_); first
      | ((with_reducible refine at_load 49 _ rfl ?_); refine ldW 49 _ rfl rfl rfl HM.out Tryd.underlying49 rfl infoRJ ?_)
      | ((first
        | ((with_reducible refine at_store 49 _ _ rfl ?_); refine stW 49 _ _ rfl rfl rfl rfl HM.out infoRJ ?_; intro w9 M)
        | ((with_reducible refine at_box 49 _ rfl ?_); refine boW 49 _ rfl rfl rfl HM.out ?_; intro w9 n9 M)
        | ((with_reducible refine at_alloc 49 rfl ?_); refine alW 49 rfl rfl (zeroRJ _) HM.out ?_; intro w9 n9 M)); replace HM := Lib.hid M; clear M; clear fM; have fM := HM.out.fa)))
  all_goals clear fM
  refine nxt HM fun w3 M => ?_
  clear HM; have HM := M; clear M
  rw [← HXV.out]
  refine (rline_any w3 J cs p index e (HR.out.ext HM.out.extTo) HP.out HI.out (HOK.out.told p) HOK.out.len (by have := HOK.out.slot; omega) HOK.out.st HTX.out HOK.out.puts).mono ?_
  rintro r w4 ⟨cs', rfl, hR', hE⟩
  obtain ⟨-, -, -, -, hlen', hone', -⟩ := hR'.open
  have HLEN1 := Lib.hid hlen'
  have HONE1 := Lib.hid hone'
  have HWD1 : Wd _ _ := ⟨HLEN1.out, HONE1.out⟩
  have HR1 := Lib.hid hR'
  have HE4 := Lib.hid (HM.out.extTo.ext hE)
  have H3 := Lib.hid HM.out.extTo.size
  replace HM := Lib.hid (Mem.restart HM.out hE)
  obtain ⟨z, hz⟩ : ∃ z, (lineR J p index e).2 = z := ⟨_, rfl⟩
  rw [hz]
  have HZ := Lib.hid hz
  clear hE hR' hlen' hone' hz
  by_cases h0 : z = 0
  · have HQ : Hid (seeR J ⟨2, p, index, e⟩ = ((lineR J p index e).1, 0)) := Lib.hid (by rw [seeR_ok HMM.out (by rw [HKR.out, HZ.out]; exact h0), HKR.out])
    subst h0
    have fM := HM.out.fa
    go_wp2_with (first
      | ((with_reducible refine at_list ?_); first
        | ((with_reducible refine at_load 49 _ rfl ?_); refine ldW 49 _ rfl rfl rfl HM.out Tryd.underlying49 rfl infoRJ ?_)
        | ((first
          | ((with_reducible refine at_store 49 _ _ rfl ?_); refine stW 49 _ _ rfl rfl rfl rfl HM.out infoRJ ?_; intro w9 M)
          | ((with_reducible refine at_box 49 _ rfl ?_); refine boW 49 _ rfl rfl rfl HM.out ?_; intro w9 n9 M)
          | ((with_reducible refine at_alloc 49 rfl ?_); refine alW 49 rfl rfl (zeroRJ _) HM.out ?_; intro w9 n9 M)); replace HM := Lib.hid M; clear M; clear fM; have fM := HM.out.fa)))
    all_goals clear fM
    refine nxt HM fun w5 M => ?_
    clear HM; have HM := M; clear M
    refine bodyPost_ret (rtW 49 Tryd.results13 _ rfl HM.out Tryd.underlying49 rfl infoRJ) rfl ?_
    rw [HQ.out]
    have h3 := H3.out
    have hl := HLT.out
    refine ⟨_, rfl, (RefAt.keeps HR1.out HM.out.keepsTo fun k hk h9 => ?_).mono fun k hk => ?_, HE4.out.then HM.out.keepsTo fun k hk h9 => absurd h9.1 (by omega)⟩
    · obtain ⟨h91, h92⟩ := h9
      rcases hk with hk | hk; (have := hl k hk; omega); omega
    · exact hk.imp id fun h => by omega
  · have h0' : (z != 0) = true := by simpa using h0
    have HQ : Hid (seeR J ⟨2, p, index, e⟩ = ({ J with broken := wrap64 (J.broken + 1) }, z)) := Lib.hid (by rw [seeR_bad HMM.out (by rw [HKR.out, HZ.out]; exact h0), HKR.out, HZ.out])
    clear h0
    have fM := HM.out.fa
    go_wp2_with (first
      | ((with_reducible refine at_list ?_); first
        | ((with_reducible refine at_load 49 _ rfl ?_); refine ldW 49 _ rfl rfl rfl HM.out Tryd.underlying49 rfl infoRJ ?_)
        | ((first
          | ((with_reducible refine at_store 49 _ _ rfl ?_); refine stW 49 _ _ rfl rfl rfl rfl HM.out infoRJ ?_; intro w9 M)
          | ((with_reducible refine at_box 49 _ rfl ?_); refine boW 49 _ rfl rfl rfl HM.out ?_; intro w9 n9 M)
          | ((with_reducible refine at_alloc 49 rfl ?_); refine alW 49 rfl rfl (zeroRJ _) HM.out ?_; intro w9 n9 M)); replace HM := Lib.hid M; clear M; clear fM; have fM := HM.out.fa)))
    all_goals clear fM
    refine nxt HM fun w5 M => ?_
    clear HM; have HM := M; clear M
    refine bodyPost_ret (rtW 49 Tryd.results13 _ rfl HM.out Tryd.underlying49 rfl infoRJ) rfl ?_
    rw [HQ.out]
    have HE5 := HE4.out.then HM.out.keepsTo fun k hk h9 => absurd h9.1 (by omega)
    exact ⟨_, rfl, ((HR.out.setBroken (wrap64 (J.broken + 1))).ext HE5).mono (fun k hk => .inl hk), HE5⟩
theorem rsee_3 {A : Nat → Prop} (w : World) (J : JA) (cs : List Value) (p : Nat) (index : Int) (e : En) (h : RefAt w A J cs) (hA : ∀ k, A k → k < w.heap.size) (hok : OkR J) (ht : e.text.length ≤ 500000) (hp : p < 9) (hm : mayE J ⟨3, p, index, e⟩ = 0) : SeeC w A J cs ⟨3, p, index, e⟩ := by
  have hlt0 : ∀ k, A k → k < w.heap.size := hA
  obtain ⟨al, cl, ap, cp, hlen, hone, -, -, -, c3, cT, -, c29, c30, hvl, hvp⟩ := h.open
  have HR := Lib.hid h
  have HV := Lib.hid hvp
  have HLEN := Lib.hid hlen
  have HONE := Lib.hid hone
  have HWD : Wd _ _ := ⟨HLEN.out, HONE.out⟩
  have HOK := Lib.hid hok
  have HTX := Lib.hid ht
  have HLT := Lib.hid hlt0
  have HM := Lib.hid (Mem.start0 w)
  have HP := Lib.hid hp
  have cpp := cT p hp
  have g1 : (p : Int) < 9 := by omega
  have g2 : ¬ (p : Int) < 0 := by omega
  obtain ⟨n, hn⟩ : ∃ n, J.told.getD p 0 = n := ⟨_, rfl⟩
  rw [hn] at cpp
  have hkr : kindsR J ⟨3, p, index, e⟩ = backR J p index := by simp [kindsR]
  by_cases h1 : n ≤ index
  case neg =>
    have hq : backR J p index = (J, 404) := by unfold backR; rw [if_pos (by rw [hn]; exact h1)]
    have HQ := Lib.hid (seeR_bad hm (by rw [hkr, hq]; exact (by decide : (404 : Int) ≠ 0)))
    rw [hkr, hq] at HQ
    have h1' : index < n := by omega
    clear h1 hn hkr hp hq
    unfold SeeC
    have HXV := Lib.hid (show (⟨3, p, index, e⟩ : Sn).v = .agg #[.int .i64 3, .int .i64 (p : Int), .int .i64 index, .int .i64 e.kind, .int .i64 e.member, .int .i64 e.number, .string (bs e.text)] from rfl)
    rw [HXV.out]
    have HMM := Lib.hid hm
    clear h hA hok ht hlt0 hlen hone cT c29 hvl hvp hm
    go_enter Tryd.func13, Tryd.ntmps13
    have fM := HM.out.fa
    go_wp2_with (first
      | ((with_reducible refine at_list ?_); first
        | ((with_reducible refine at_load 49 _ rfl ?_); refine ldW 49 _ rfl rfl rfl HM.out Tryd.underlying49 rfl infoRJ ?_)
        | ((first
          | ((with_reducible refine at_store 49 _ _ rfl ?_); refine stW 49 _ _ rfl rfl rfl rfl HM.out infoRJ ?_; intro w9 M)
          | ((with_reducible refine at_box 49 _ rfl ?_); refine boW 49 _ rfl rfl rfl HM.out ?_; intro w9 n9 M)
          | ((with_reducible refine at_alloc 49 rfl ?_); refine alW 49 rfl rfl (zeroRJ _) HM.out ?_; intro w9 n9 M)); replace HM := Lib.hid M; clear M; clear fM; have fM := HM.out.fa)))
    all_goals clear fM
    refine nxt HM fun w1 M => ?_
    clear HM; have HM := M; clear M
    rw [← HXV.out]
    refine (rmay_any w1 J cs ⟨3, p, index, e⟩ (HR.out.ext HM.out.extTo) HTX.out).mono ?_
    rintro r w2 ⟨rfl, hE⟩
    rw [HMM.out]
    replace HM := Lib.hid (HM.out.ext hE)
    clear hE
    have fM := HM.out.fa
    go_wp2_with (first
      | ((with_reducible refine at_list ?_); first
        | ((with_reducible refine at_load 49 _ rfl ?_); refine ldW 49 _ rfl rfl rfl HM.out Tryd.underlying49 rfl infoRJ ?_)
        | ((first
          | ((with_reducible refine at_store 49 _ _ rfl ?_); refine stW 49 _ _ rfl rfl rfl rfl HM.out infoRJ ?_; intro w9 M)
          | ((with_reducible refine at_box 49 _ rfl ?_); refine boW 49 _ rfl rfl rfl HM.out ?_; intro w9 n9 M)
          | ((with_reducible refine at_alloc 49 rfl ?_); refine alW 49 rfl rfl (zeroRJ _) HM.out ?_; intro w9 n9 M)); replace HM := Lib.hid M; clear M; clear fM; have fM := HM.out.fa)))
    all_goals clear fM
    refine nxt HM fun w3 M => ?_
    clear HM; have HM := M; clear M
    have fM := HM.out.fa
    have hE0 : Keeps NoB w3 w3.drew := (Keeps.refl _ _).drew
    refine wp_region_plan [(0, 0), (3, 1), (0, 2), (3, 3), (0, 4), (0, 5), (3, 6), (0, 7)] [] [] [] (ClsE w3) (by kernel_rfl) (by kernel_rfl) (by kernel_rfl) rfl rfl (ClsE.of hE0) (fun _ _ _ d _ h => by cases d <;> exact h) ?_; simp only [planL, nL]
    refine pR (v := ?_) rfl (fun W => ?_) ?_; rotate_left; (go_simp <;> with_reducible rfl); simp only [nP]
    refine pX (v := ?_) rfl ?_ ?_; rotate_left; (go_simp <;> with_reducible rfl); simp only [nP]
    refine pR (v := ?_) rfl (fun W => ?_) ?_; rotate_left; (go_simp <;> with_reducible rfl); simp only [nP]
    refine pX (v := ?_) rfl ?_ ?_; rotate_left; (go_simp <;> with_reducible rfl); simp only [nP]
    iterate 2 (refine pR (v := ?_) rfl (fun W => ?_) ?_; rotate_left; (go_simp <;> with_reducible rfl); simp only [nP])
    refine pX (v := ?_) rfl ?_ ?_; rotate_left; (go_simp <;> with_reducible rfl); simp only [nP]
    refine pR (v := ?_) rfl (fun W => ?_) ?_; rotate_left; (go_simp <;> with_reducible rfl); simp only [nP]
    refine plan_nil ?_; simp only [tailL, List.filterMap_nil]
    go_wp2_with (first
      | ((with_reducible refine at_list ?_); first
        | ((with_reducible refine at_load 49 _ rfl ?_); refine ldW 49 _ rfl rfl rfl HM.out Tryd.underlying49 rfl infoRJ ?_)
        | ((first
          | ((with_reducible refine at_store 49 _ _ rfl ?_); refine stW 49 _ _ rfl rfl rfl rfl HM.out infoRJ ?_; intro w9 M)
          | ((with_reducible refine at_box 49 _ rfl ?_); refine boW 49 _ rfl rfl rfl HM.out ?_; intro w9 n9 M)
          | ((with_reducible refine at_alloc 49 rfl ?_); refine alW 49 rfl rfl (zeroRJ _) HM.out ?_; intro w9 n9 M)); replace HM := Lib.hid M; clear M; clear fM; have fM := HM.out.fa)))
    clear fM
    refine nxt HM fun w5 M => ?_
    clear HM; have HM := M; clear M
    refine bodyPost_ret (rtW 49 Tryd.results13 _ rfl HM.out Tryd.underlying49 rfl infoRJ) rfl ?_
    rw [HQ.out]
    have HE5 := HM.out.extTo
    exact ⟨_, rfl, ((HR.out.setBroken (wrap64 (J.broken + 1))).ext HE5).mono (fun k hk => .inl hk), HE5⟩
  have h1' : ¬ index < n := by omega
  by_cases h2 : index ≤ (J.T.l.length : Int)
  case neg =>
    have hq : backR J p index = (J, 403) := by unfold backR; rw [if_neg (by rw [hn]; exact fun h => h h1), if_pos h2]
    have HQ := Lib.hid (seeR_bad hm (by rw [hkr, hq]; exact (by decide : (403 : Int) ≠ 0)))
    rw [hkr, hq] at HQ
    have h2' : (J.T.l.length : Int) < index := by omega
    clear h1 hn hkr hp hq h2
    unfold SeeC
    have HXV := Lib.hid (show (⟨3, p, index, e⟩ : Sn).v = .agg #[.int .i64 3, .int .i64 (p : Int), .int .i64 index, .int .i64 e.kind, .int .i64 e.member, .int .i64 e.number, .string (bs e.text)] from rfl)
    rw [HXV.out]
    have HMM := Lib.hid hm
    clear h hA hok ht hlt0 hlen hone cT c29 hvl hvp hm
    go_enter Tryd.func13, Tryd.ntmps13
    have fM := HM.out.fa
    go_wp2_with (first
      | ((with_reducible refine at_list ?_); first
        | ((with_reducible refine at_load 49 _ rfl ?_); refine ldW 49 _ rfl rfl rfl HM.out Tryd.underlying49 rfl infoRJ ?_)
        | ((first
          | ((with_reducible refine at_store 49 _ _ rfl ?_); refine stW 49 _ _ rfl rfl rfl rfl HM.out infoRJ ?_; intro w9 M)
          | ((with_reducible refine at_box 49 _ rfl ?_); refine boW 49 _ rfl rfl rfl HM.out ?_; intro w9 n9 M)
          | ((with_reducible refine at_alloc 49 rfl ?_); refine alW 49 rfl rfl (zeroRJ _) HM.out ?_; intro w9 n9 M)); replace HM := Lib.hid M; clear M; clear fM; have fM := HM.out.fa)))
    all_goals clear fM
    refine nxt HM fun w1 M => ?_
    clear HM; have HM := M; clear M
    rw [← HXV.out]
    refine (rmay_any w1 J cs ⟨3, p, index, e⟩ (HR.out.ext HM.out.extTo) HTX.out).mono ?_
    rintro r w2 ⟨rfl, hE⟩
    rw [HMM.out]
    replace HM := Lib.hid (HM.out.ext hE)
    clear hE
    have fM := HM.out.fa
    go_wp2_with (first
      | ((with_reducible refine at_list ?_); first
        | ((with_reducible refine at_load 49 _ rfl ?_); refine ldW 49 _ rfl rfl rfl HM.out Tryd.underlying49 rfl infoRJ ?_)
        | ((first
          | ((with_reducible refine at_store 49 _ _ rfl ?_); refine stW 49 _ _ rfl rfl rfl rfl HM.out infoRJ ?_; intro w9 M)
          | ((with_reducible refine at_box 49 _ rfl ?_); refine boW 49 _ rfl rfl rfl HM.out ?_; intro w9 n9 M)
          | ((with_reducible refine at_alloc 49 rfl ?_); refine alW 49 rfl rfl (zeroRJ _) HM.out ?_; intro w9 n9 M)); replace HM := Lib.hid M; clear M; clear fM; have fM := HM.out.fa)))
    all_goals clear fM
    refine nxt HM fun w3 M => ?_
    clear HM; have HM := M; clear M
    have fM := HM.out.fa
    have hE0 : Keeps NoB w3 w3.drew := (Keeps.refl _ _).drew
    refine wp_region_plan [(0, 0), (3, 1), (0, 2), (3, 3), (0, 4), (0, 5), (3, 6), (0, 7)] [] [] [] (ClsE w3) (by kernel_rfl) (by kernel_rfl) (by kernel_rfl) rfl rfl (ClsE.of hE0) (fun _ _ _ d _ h => by cases d <;> exact h) ?_; simp only [planL, nL]
    refine pR (v := ?_) rfl (fun W => ?_) ?_; rotate_left; (go_simp <;> with_reducible rfl); simp only [nP]
    refine pX (v := ?_) rfl ?_ ?_; rotate_left; (go_simp <;> with_reducible rfl); simp only [nP]
    refine pR (v := ?_) rfl (fun W => ?_) ?_; rotate_left; (go_simp <;> with_reducible rfl); simp only [nP]
    refine pX (v := ?_) rfl ?_ ?_; rotate_left; (go_simp <;> with_reducible rfl); simp only [nP]
    iterate 2 (refine pR (v := ?_) rfl (fun W => ?_) ?_; rotate_left; (go_simp <;> with_reducible rfl); simp only [nP])
    refine pX (v := ?_) rfl ?_ ?_; rotate_left; (go_simp <;> with_reducible rfl); simp only [nP]
    refine pR (v := ?_) rfl (fun W => ?_) ?_; rotate_left; (go_simp <;> with_reducible rfl); simp only [nP]
    refine plan_nil ?_; simp only [tailL, List.filterMap_nil]
    go_wp2_with (first
      | ((with_reducible refine at_list ?_); first
        | ((with_reducible refine at_load 49 _ rfl ?_); refine ldW 49 _ rfl rfl rfl HM.out Tryd.underlying49 rfl infoRJ ?_)
        | ((first
          | ((with_reducible refine at_store 49 _ _ rfl ?_); refine stW 49 _ _ rfl rfl rfl rfl HM.out infoRJ ?_; intro w9 M)
          | ((with_reducible refine at_box 49 _ rfl ?_); refine boW 49 _ rfl rfl rfl HM.out ?_; intro w9 n9 M)
          | ((with_reducible refine at_alloc 49 rfl ?_); refine alW 49 rfl rfl (zeroRJ _) HM.out ?_; intro w9 n9 M)); replace HM := Lib.hid M; clear M; clear fM; have fM := HM.out.fa)))
    clear fM
    refine nxt HM fun w5 M => ?_
    clear HM; have HM := M; clear M
    refine bodyPost_ret (rtW 49 Tryd.results13 _ rfl HM.out Tryd.underlying49 rfl infoRJ) rfl ?_
    rw [HQ.out]
    have HE5 := HM.out.extTo
    exact ⟨_, rfl, ((HR.out.setBroken (wrap64 (J.broken + 1))).ext HE5).mono (fun k hk => .inl hk), HE5⟩
  have hq : backR J p index = ({ J with told := J.told.set p index }, 0) := by unfold backR; rw [if_neg (by rw [hn]; exact fun h => h h1), if_neg (fun h => h h2)]
  have HQ := Lib.hid (seeR_ok hm (by rw [hkr, hq]))
  rw [hkr, hq] at HQ
  have h2' : ¬ (J.T.l.length : Int) < index := by omega
  clear h1 hn hkr hp hq h2
  unfold SeeC
  have HXV := Lib.hid (show (⟨3, p, index, e⟩ : Sn).v = .agg #[.int .i64 3, .int .i64 (p : Int), .int .i64 index, .int .i64 e.kind, .int .i64 e.member, .int .i64 e.number, .string (bs e.text)] from rfl)
  rw [HXV.out]
  have HMM := Lib.hid hm
  clear h hA hok ht hlt0 hlen hone cT c29 hvl hvp hm
  go_enter Tryd.func13, Tryd.ntmps13
  have fM := HM.out.fa
  go_wp2_with (first
    | ((with_reducible refine at_list ?_); first
      | ((with_reducible refine at_load 49 _ rfl ?_); refine ldW 49 _ rfl rfl rfl HM.out Tryd.underlying49 rfl infoRJ ?_)
      | ((first
        | ((with_reducible refine at_store 49 _ _ rfl ?_); refine stW 49 _ _ rfl rfl rfl rfl HM.out infoRJ ?_; intro w9 M)
        | ((with_reducible refine at_box 49 _ rfl ?_); refine boW 49 _ rfl rfl rfl HM.out ?_; intro w9 n9 M)
        | ((with_reducible refine at_alloc 49 rfl ?_); refine alW 49 rfl rfl (zeroRJ _) HM.out ?_; intro w9 n9 M)); replace HM := Lib.hid M; clear M; clear fM; have fM := HM.out.fa)))
  all_goals clear fM
  refine nxt HM fun w1 M => ?_
  clear HM; have HM := M; clear M
  rw [← HXV.out]
  refine (rmay_any w1 J cs ⟨3, p, index, e⟩ (HR.out.ext HM.out.extTo) HTX.out).mono ?_
  rintro r w2 ⟨rfl, hE⟩
  rw [HMM.out]
  replace HM := Lib.hid (HM.out.ext hE)
  clear hE
  have fM := HM.out.fa
  go_wp2_with (first
    | ((with_reducible refine at_list ?_); first
      | ((with_reducible refine at_load 49 _ rfl ?_); refine ldW 49 _ rfl rfl rfl HM.out Tryd.underlying49 rfl infoRJ ?_)
      | ((first
        | ((with_reducible refine at_store 49 _ _ rfl ?_); refine stW 49 _ _ rfl rfl rfl rfl HM.out infoRJ ?_; intro w9 M)
        | ((with_reducible refine at_box 49 _ rfl ?_); refine boW 49 _ rfl rfl rfl HM.out ?_; intro w9 n9 M)
        | ((with_reducible refine at_alloc 49 rfl ?_); refine alW 49 rfl rfl (zeroRJ _) HM.out ?_; intro w9 n9 M)); replace HM := Lib.hid M; clear M; clear fM; have fM := HM.out.fa)))
  all_goals clear fM
  refine nxt HM fun w3 M => ?_
  clear HM; have HM := M; clear M
  have fM := HM.out.fa
  have hE0 : Keeps NoB w3 w3.drew := (Keeps.refl _ _).drew
  refine wp_region_plan [(0, 0), (3, 1), (0, 2), (3, 3), (0, 4), (0, 5), (3, 6), (0, 7)] [] [] [] (ClsE w3) (by kernel_rfl) (by kernel_rfl) (by kernel_rfl) rfl rfl (ClsE.of hE0) (fun _ _ _ d _ h => by cases d <;> exact h) ?_; simp only [planL, nL]
  refine pR (v := ?_) rfl (fun W => ?_) ?_; rotate_left; (go_simp <;> with_reducible rfl); simp only [nP]
  refine pX (v := ?_) rfl ?_ ?_; rotate_left; (go_simp <;> with_reducible rfl); simp only [nP]
  refine pR (v := ?_) rfl (fun W => ?_) ?_; rotate_left; (go_simp <;> with_reducible rfl); simp only [nP]
  refine pX (v := ?_) rfl ?_ ?_; rotate_left; (go_simp <;> with_reducible rfl); simp only [nP]
  iterate 2 (refine pR (v := ?_) rfl (fun W => ?_) ?_; rotate_left; (go_simp <;> with_reducible rfl); simp only [nP])
  refine pX (v := ?_) rfl ?_ ?_; rotate_left; (go_simp <;> with_reducible rfl); simp only [nP]
  refine pR (v := ?_) rfl (fun W => ?_) ?_; rotate_left; (go_simp <;> with_reducible rfl); simp only [nP]
  refine plan_nil ?_; simp only [tailL, List.filterMap_nil]
  go_wp2_with (first
    | ((with_reducible refine at_list ?_); first
      | ((with_reducible refine at_load 49 _ rfl ?_); refine ldW 49 _ rfl rfl rfl HM.out Tryd.underlying49 rfl infoRJ ?_)
      | ((first
        | ((with_reducible refine at_store 49 _ _ rfl ?_); refine stW 49 _ _ rfl rfl rfl rfl HM.out infoRJ ?_; intro w9 M)
        | ((with_reducible refine at_box 49 _ rfl ?_); refine boW 49 _ rfl rfl rfl HM.out ?_; intro w9 n9 M)
        | ((with_reducible refine at_alloc 49 rfl ?_); refine alW 49 rfl rfl (zeroRJ _) HM.out ?_; intro w9 n9 M)); replace HM := Lib.hid M; clear M; clear fM; have fM := HM.out.fa)))
  clear fM
  refine bodyPost_ret (rtW 49 Tryd.results13 _ rfl HM.out Tryd.underlying49 rfl infoRJ) rfl ?_
  rw [HQ.out]
  refine ⟨_, rfl, ((HR.out.setTold p HP.out index).ext ?_).mono (fun k hk => .inl hk), ?_⟩ <;> (apply Mem.extTo; exact HM.out.to)
end Go.Proofs.YthhdgjofagdjeaaDoor
end
