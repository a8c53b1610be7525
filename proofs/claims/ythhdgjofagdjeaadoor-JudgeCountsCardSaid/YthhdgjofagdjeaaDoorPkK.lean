/- Texts VE, VF, one behind the other. Conditions: as each says. -/
import Derived.Test.YthhdgjofagdjeaaDoorPkJ
section
/- The document's judge: something of a member. Condition: it reads as 'RefAt' says; the member is one of sixteen; the index is not below 0. -/
set_option linter.unusedVariables false
set_option linter.unusedSimpArgs false
set_option maxHeartbeats 4000000
set_option maxRecDepth 100000
namespace Go.Proofs.YthhdgjofagdjeaaDoor
open Go.RowKit Go.Shelf
section
variable {w : World} {A : Nat → Prop} {J : JA} {cs : List Value}
theorem RefAt.open (h : RefAt w A J cs) : ∃ al cl ap cp, cs.length = 31 ∧ (∀ u ∈ cs, u.oneCell' = true) ∧ cs[0]? = some (.int .i64 J.n) ∧ cs[1]? = some (.int .i64 J.m) ∧ cs[2]? = some (.int .i64 J.T.slot) ∧ cs[3]? = some (.slice al J.T.l.length cl) ∧
    (∀ p, p < 9 → cs[4 + p]? = some (.int .i64 (J.told.getD p 0))) ∧ (∀ p, p < 16 → cs[13 + p]? = some (.int .i64 (J.next.getD p 0))) ∧ cs[29]? = some (.slice ap J.put.length cp) ∧ cs[30]? = some (.int .i64 J.broken) ∧
    RowAt lnE w 0 (.slice al J.T.l.length cl) J.T.l ∧ RowAt enE w 0 (.slice ap J.put.length cp) J.put := by
  obtain ⟨vl, vp, rfl, hvl, -, hvp, -, h9, h16⟩ := h
  obtain ⟨al, cl, rfl⟩ := hvl.len
  obtain ⟨ap, cp, rfl⟩ := hvp.len
  obtain ⟨h0, h1, h2, h3, h4, h5, h6, h7⟩ := J.rat (.slice al J.T.l.length cl) (.slice ap J.put.length cp) h9 h16
  exact ⟨al, cl, ap, cp, J.rcells_len _ _ h9 h16, J.rcells_one al ap J.T.l.length cl J.put.length cp, h0, h1, h2, h3, h4, h5, h6, h7, hvl, hvp⟩
theorem RefAt.setNext (h : RefAt w A J cs) (p : Nat) (hp : p < 16) (n : Int) : RefAt w A { J with next := J.next.set p n } (cs.set (13 + p) (.int .i64 n)) :=
  let ⟨vl, vp, h1, h2, h3, h4, h5, h6, h7⟩ := h
  ⟨vl, vp, by rw [h1, J.rset_next vl vp p h6 h7 hp n], h2, h3, h4, h5, h6, by simpa using h7⟩
theorem RefAt.setTold (h : RefAt w A J cs) (p : Nat) (hp : p < 9) (n : Int) : RefAt w A { J with told := J.told.set p n } (cs.set (4 + p) (.int .i64 n)) :=
  let ⟨vl, vp, h1, h2, h3, h4, h5, h6, h7⟩ := h
  ⟨vl, vp, by rw [h1, J.rset_told vl vp p h6 hp n], h2, h3, h4, h5, by simpa using h6, h7⟩
theorem RefAt.setBroken (h : RefAt w A J cs) (n : Int) : RefAt w A { J with broken := n } (cs.set 30 (.int .i64 n)) :=
  let ⟨vl, vp, h1, h2, h3, h4, h5, h6, h7⟩ := h
  ⟨vl, vp, by rw [h1, J.rset_broken vl vp h6 h7 n], h2, h3, h4, h5, h6, h7⟩
end
theorem rwent_any {A : Nat → Prop} (w : World) (J : JA) (cs : List Value) (p : Nat) (index : Int) (e : En) (h : RefAt w A J cs) (hp : p < 16) :
    Calls Tryd.prog 26 #[.agg cs.toArray, (⟨6, p, index, e⟩ : Sn).v] w fun r w' => ∃ cs', r = .returned (.tuple #[.agg cs'.toArray, .int .i64 (wentR J p index).2]) ∧ RefAt w' A (wentR J p index).1 cs' ∧ Ext w w' := by
  obtain ⟨al, cl, ap, cp, hlen, hone, -, -, -, c3, -, cN, -, -, hvl, -⟩ := h.open
  have cp := cN p hp
  have HR := Lib.hid h
  have HV := Lib.hid hvl
  have HLEN := Lib.hid hlen
  have HONE := Lib.hid hone
  have HWD : Wd _ _ := ⟨HLEN.out, HONE.out⟩
  have HP := Lib.hid hp
  have HM := Lib.hid (Mem.start0 w)
  have g1 : (p : Int) < 16 := by omega
  have g2 : ¬ (p : Int) < 0 := by omega
  obtain ⟨n, hn⟩ : ∃ n, J.next.getD p 0 = n := ⟨_, rfl⟩
  rw [hn] at cp
  have HN := Lib.hid hn
  clear h hlen hone cN hn hp hvl
  unfold Sn.v
  dsimp only
  by_cases hx : index ≤ n
  · have hq : wentR J p index = ({ J with next := J.next.set p index }, 0) := by unfold wentR; rw [if_pos (by rw [HN.out]; exact hx)]
    rw [hq]
    clear hq
    have hx' : ¬ n < index := by omega
    clear hx
    go_enter Tryd.func26, Tryd.ntmps26
    have fM := HM.out.fa
    go_wp2_with (first
      | ((with_reducible refine at_list ?_); first
        | ((with_reducible refine at_load 49 _ rfl ?_); refine ldW 49 _ rfl rfl rfl HM.out Tryd.underlying49 rfl infoRJ ?_)
        | ((first
          | ((with_reducible refine at_store 49 _ _ rfl ?_); refine stW 49 _ _ rfl rfl rfl rfl HM.out infoRJ ?_; intro w9 M)
          | ((with_reducible refine at_box 49 _ rfl ?_); refine boW 49 _ rfl rfl rfl HM.out ?_; intro w9 n9 M)
          | ((with_reducible refine at_alloc 49 rfl ?_); refine alW 49 rfl rfl (zeroRJ _) HM.out ?_; intro w9 n9 M)); replace HM := Lib.hid M; clear M; clear fM; have fM := HM.out.fa)))
    all_goals clear fM
    refine bodyPost_ret (rtW 49 Tryd.results26 _ rfl HM.out Tryd.underlying49 rfl infoRJ) rfl ?_
    refine ⟨_, rfl, (HR.out.setNext p HP.out index).ext ?_, ?_⟩ <;> (apply Mem.extTo; exact HM.out.to)
  · have hq : wentR J p index = (J, 403) := by unfold wentR; rw [if_neg (by rw [HN.out]; exact hx)]
    rw [hq]
    clear hq
    have hx' : n < index := by omega
    clear hx
    go_enter Tryd.func26, Tryd.ntmps26
    have fM := HM.out.fa
    go_wp2_with (first
      | ((with_reducible refine at_list ?_); first
        | ((with_reducible refine at_load 49 _ rfl ?_); refine ldW 49 _ rfl rfl rfl HM.out Tryd.underlying49 rfl infoRJ ?_)
        | ((first
          | ((with_reducible refine at_store 49 _ _ rfl ?_); refine stW 49 _ _ rfl rfl rfl rfl HM.out infoRJ ?_; intro w9 M)
          | ((with_reducible refine at_box 49 _ rfl ?_); refine boW 49 _ rfl rfl rfl HM.out ?_; intro w9 n9 M)
          | ((with_reducible refine at_alloc 49 rfl ?_); refine alW 49 rfl rfl (zeroRJ _) HM.out ?_; intro w9 n9 M)); replace HM := Lib.hid M; clear M; clear fM; have fM := HM.out.fa)))
    all_goals clear fM
    refine bodyPost_ret (rtW 49 Tryd.results26 _ rfl HM.out Tryd.underlying49 rfl infoRJ) rfl ?_
    refine ⟨_, rfl, (HR.out).ext ?_, ?_⟩ <;> (apply Mem.extTo; exact HM.out.to)
theorem ln_x {w : World} {a : Option Addr} {c : Nat} {l : List Ln} (h : RowAt lnE w 0 (.slice a l.length c) l) (k : Nat) (hk : k < l.length) :
    ∃ g o, a = some ⟨g, o, none⟩ ∧ g < w.heap.size ∧ w.cell? ⟨g, o + k * 6 + 2, none⟩ = some (.int .i64 l[k].e.kind) ∧ w.cell? ⟨g, o + k * 6 + 2 + 1, none⟩ = some (.int .i64 l[k].e.member) ∧ w.cell? ⟨g, o + k * 6 + 2 + 2, none⟩ = some (.int .i64 l[k].e.number) ∧ w.cell? ⟨g, o + k * 6 + 2 + 3, none⟩ = some (.string (bs l[k].e.text)) := by
  obtain ⟨g, o, hv, hg, h3⟩ := h.at k hk
  exact ⟨g, o, hv, hg, h3 2 (by decide), h3 3 (by decide), h3 4 (by decide), h3 5 (by decide)⟩
theorem rtold_any {A : Nat → Prop} (w : World) (J : JA) (cs : List Value) (p : Nat) (index : Int) (e : En) (h : RefAt w A J cs) (hp : p < 16) (hi : 0 ≤ index) (hl : J.T.l.length ≤ 4096) :
    Calls Tryd.prog 26 #[.agg cs.toArray, (⟨5, p, index, e⟩ : Sn).v] w fun r w' => ∃ cs', r = .returned (.tuple #[.agg cs'.toArray, .int .i64 (toldR J p index e).2]) ∧ RefAt w' A (toldR J p index e).1 cs' ∧ Ext w w' := by
  obtain ⟨al, cl, ap, cp, hlen, hone, -, -, -, c3, -, cN, -, -, hvl, -⟩ := h.open
  have cp := cN p hp
  have HR := Lib.hid h
  have HV := Lib.hid hvl
  have HLEN := Lib.hid hlen
  have HONE := Lib.hid hone
  have HWD : Wd _ _ := ⟨HLEN.out, HONE.out⟩
  have HP := Lib.hid hp
  have HM := Lib.hid (Mem.start0 w)
  have g1 : (p : Int) < 16 := by omega
  have g2 : ¬ (p : Int) < 0 := by omega
  obtain ⟨n, hn⟩ : ∃ n, J.next.getD p 0 = n := ⟨_, rfl⟩
  rw [hn] at cp
  have HN := Lib.hid hn
  clear h hlen hone cN hn hp hvl
  unfold Sn.v
  dsimp only
  have HI := Lib.hid hi
  have HL := Lib.hid hl
  clear hi hl
  by_cases hx : index = n
  case neg =>
    have hq : toldR J p index e = (J, 403) := by unfold toldR; rw [if_pos (by rw [HN.out]; exact hx)]
    rw [hq]
    clear hq
    have hx' : (n != index) = true := by simpa using fun h => hx h.symm
    by_cases h0 : n < 0
    · clear hx
      go_enter Tryd.func26, Tryd.ntmps26
      have fM := HM.out.fa
      go_wp2_with (first
        | ((with_reducible refine at_list ?_); first
          | ((with_reducible refine at_load 49 _ rfl ?_); refine ldW 49 _ rfl rfl rfl HM.out Tryd.underlying49 rfl infoRJ ?_)
          | ((first
            | ((with_reducible refine at_store 49 _ _ rfl ?_); refine stW 49 _ _ rfl rfl rfl rfl HM.out infoRJ ?_; intro w9 M)
            | ((with_reducible refine at_box 49 _ rfl ?_); refine boW 49 _ rfl rfl rfl HM.out ?_; intro w9 n9 M)
            | ((with_reducible refine at_alloc 49 rfl ?_); refine alW 49 rfl rfl (zeroRJ _) HM.out ?_; intro w9 n9 M)); replace HM := Lib.hid M; clear M; clear fM; have fM := HM.out.fa)))
      all_goals clear fM
      refine bodyPost_ret (rtW 49 Tryd.results26 _ rfl HM.out Tryd.underlying49 rfl infoRJ) rfl ?_
      refine ⟨_, rfl, (HR.out).ext ?_, ?_⟩ <;> (apply Mem.extTo; exact HM.out.to)
    · clear hx
      go_enter Tryd.func26, Tryd.ntmps26
      have fM := HM.out.fa
      go_wp2_with (first
        | ((with_reducible refine at_list ?_); first
          | ((with_reducible refine at_load 49 _ rfl ?_); refine ldW 49 _ rfl rfl rfl HM.out Tryd.underlying49 rfl infoRJ ?_)
          | ((first
            | ((with_reducible refine at_store 49 _ _ rfl ?_); refine stW 49 _ _ rfl rfl rfl rfl HM.out infoRJ ?_; intro w9 M)
            | ((with_reducible refine at_box 49 _ rfl ?_); refine boW 49 _ rfl rfl rfl HM.out ?_; intro w9 n9 M)
            | ((with_reducible refine at_alloc 49 rfl ?_); refine alW 49 rfl rfl (zeroRJ _) HM.out ?_; intro w9 n9 M)); replace HM := Lib.hid M; clear M; clear fM; have fM := HM.out.fa)))
      all_goals clear fM
      refine bodyPost_ret (rtW 49 Tryd.results26 _ rfl HM.out Tryd.underlying49 rfl infoRJ) rfl ?_
      refine ⟨_, rfl, (HR.out).ext ?_, ?_⟩ <;> (apply Mem.extTo; exact HM.out.to)
  subst hx
  obtain ⟨k, rfl⟩ : ∃ k : Nat, index = k := ⟨index.toNat, by have := HI.out; omega⟩
  by_cases hk : k < J.T.l.length
  case neg =>
    have hq : toldR J p k e = (J, 405) := by unfold toldR; rw [if_neg (fun h => h HN.out.symm), if_pos (by omega)]
    rw [hq]
    clear hq
    have hx' : (J.T.l.length : Int) ≤ (k : Int) := by omega
    clear hk
    go_enter Tryd.func26, Tryd.ntmps26
    have fM := HM.out.fa
    go_wp2_with (first
      | ((with_reducible refine at_list ?_); first
        | ((with_reducible refine at_load 49 _ rfl ?_); refine ldW 49 _ rfl rfl rfl HM.out Tryd.underlying49 rfl infoRJ ?_)
        | ((first
          | ((with_reducible refine at_store 49 _ _ rfl ?_); refine stW 49 _ _ rfl rfl rfl rfl HM.out infoRJ ?_; intro w9 M)
          | ((with_reducible refine at_box 49 _ rfl ?_); refine boW 49 _ rfl rfl rfl HM.out ?_; intro w9 n9 M)
          | ((with_reducible refine at_alloc 49 rfl ?_); refine alW 49 rfl rfl (zeroRJ _) HM.out ?_; intro w9 n9 M)); replace HM := Lib.hid M; clear M; clear fM; have fM := HM.out.fa)))
    all_goals clear fM
    refine bodyPost_ret (rtW 49 Tryd.results26 _ rfl HM.out Tryd.underlying49 rfl infoRJ) rfl ?_
    refine ⟨_, rfl, (HR.out).ext ?_, ?_⟩ <;> (apply Mem.extTo; exact HM.out.to)
  have gk : (k : Int) < (J.T.l.length : Int) := by omega
  have hb := hasB_at J.T.l k hk e
  obtain ⟨x, hx⟩ : ∃ x, J.T.l[k].e = x := ⟨_, rfl⟩
  rw [hx] at hb
  have HX := Lib.hid hx
  have HK := Lib.hid hk
  have hq1 := fun W => ne_en x e W
  clear hx
  by_cases hd : x = e
  · rw [decide_eq_true hd] at hb hq1
    have hq : toldR J p k e = ({ J with next := J.next.set p ((k : Int) + 1) }, 0) := by unfold toldR; rw [if_neg (fun h => h HN.out.symm), if_neg (by omega), if_neg (by rw [hb]; exact Bool.noConfusion)]
    rw [hq]
    clear hq hb hd
    have gk4 : (k : Int) < 4096 := by have := HL.out; have := HK.out; omega
    go_enter Tryd.func26, Tryd.ntmps26
    have fM := HM.out.fa
    go_wp2_with (first
      | ((with_reducible refine at_list ?_); first
        | ((with_reducible refine at_load 49 _ rfl ?_); refine ldW 49 _ rfl rfl rfl HM.out Tryd.underlying49 rfl infoRJ ?_)
        | ((first
          | ((with_reducible refine at_store 49 _ _ rfl ?_); refine stW 49 _ _ rfl rfl rfl rfl HM.out infoRJ ?_; intro w9 M)
          | ((with_reducible refine at_box 49 _ rfl ?_); refine boW 49 _ rfl rfl rfl HM.out ?_; intro w9 n9 M)
          | ((with_reducible refine at_alloc 49 rfl ?_); refine alW 49 rfl rfl (zeroRJ _) HM.out ?_; intro w9 n9 M)); replace HM := Lib.hid M; clear M; clear fM; have fM := HM.out.fa)))
    all_goals clear fM
    refine nxt HM fun w0 M => ?_
    clear HM; have HM := M; clear M
    obtain ⟨g, o, rfl, hg, d0, d1, d2, d3⟩ := ln_x (HV.out.ext HM.out.extTo) k HK.out
    rw [HX.out] at d0 d1 d2 d3
    have fM := HM.out.fa
    have hE0 : Keeps NoB w0 w0.drew := (Keeps.refl _ _).drew
    refine wp_region_plan [(0, 0), (0, 1), (3, 2), (0, 3), (3, 4), (0, 5), (0, 6), (3, 7), (0, 8), (3, 9), (0, 10)] [] [] [] (ClsE w0) (by kernel_rfl) (by kernel_rfl) (by kernel_rfl) rfl rfl (ClsE.of hE0) (fun _ _ _ d _ h => by cases d <;> exact h) ?_; simp only [planL, nL]
    iterate 2 (refine pR (v := ?_) rfl (fun W => ?_) ?_; rotate_left; (go_simp <;> with_reducible rfl); simp only [nP])
    refine pX (v := ?_) rfl ?_ ?_; rotate_left; (go_simp <;> with_reducible rfl); simp only [nP]
    refine pR (v := ?_) rfl (fun W => ?_) ?_; rotate_left; (go_simp <;> with_reducible rfl); simp only [nP]
    refine pX (v := ?_) rfl ?_ ?_; rotate_left; (go_simp <;> with_reducible rfl); simp only [nP]
    iterate 2 (refine pR (v := ?_) rfl (fun W => ?_) ?_; rotate_left; (go_simp <;> with_reducible rfl); simp only [nP])
    refine pX (v := ?_) rfl ?_ ?_; rotate_left; (go_simp <;> with_reducible rfl); simp only [nP]
    refine pR (v := ?_) rfl (fun W => ?_) ?_; rotate_left; (go_simp <;> with_reducible rfl); simp only [nP]
    refine pX (v := ?_) rfl ?_ ?_; rotate_left; (go_simp <;> with_reducible rfl); simp only [nP]
    refine pR (v := ?_) rfl (fun W => ?_) ?_; rotate_left; (go_simp <;> with_reducible rfl); simp only [nP]
    refine plan_nil ?_; simp only [tailL, List.filterMap_nil]
    go_wp2_with (first
      | ((with_reducible refine at_list ?_); first
        | ((with_reducible refine at_load 49 _ rfl ?_); refine ldW 49 _ rfl rfl rfl HM.out Tryd.underlying49 rfl infoRJ ?_)
        | ((first
          | ((with_reducible refine at_store 49 _ _ rfl ?_); refine stW 49 _ _ rfl rfl rfl rfl HM.out infoRJ ?_; intro w9 M)
          | ((with_reducible refine at_box 49 _ rfl ?_); refine boW 49 _ rfl rfl rfl HM.out ?_; intro w9 n9 M)
          | ((with_reducible refine at_alloc 49 rfl ?_); refine alW 49 rfl rfl (zeroRJ _) HM.out ?_; intro w9 n9 M)); replace HM := Lib.hid M; clear M; clear fM; have fM := HM.out.fa)))
    clear fM
    refine bodyPost_ret (rtW 49 Tryd.results26 _ rfl HM.out Tryd.underlying49 rfl infoRJ) rfl ?_
    refine ⟨_, rfl, (HR.out.setNext p HP.out _).ext ?_, ?_⟩ <;> (apply Mem.extTo; exact HM.out.to)
  · rw [decide_eq_false hd] at hb hq1
    have hq : toldR J p k e = (J, 400) := by unfold toldR; rw [if_neg (fun h => h HN.out.symm), if_neg (by omega), if_pos hb]
    rw [hq]
    clear hq hb hd
    go_enter Tryd.func26, Tryd.ntmps26
    have fM := HM.out.fa
    go_wp2_with (first
      | ((with_reducible refine at_list ?_); first
        | ((with_reducible refine at_load 49 _ rfl ?_); refine ldW 49 _ rfl rfl rfl HM.out Tryd.underlying49 rfl infoRJ ?_)
        | ((first
          | ((with_reducible refine at_store 49 _ _ rfl ?_); refine stW 49 _ _ rfl rfl rfl rfl HM.out infoRJ ?_; intro w9 M)
          | ((with_reducible refine at_box 49 _ rfl ?_); refine boW 49 _ rfl rfl rfl HM.out ?_; intro w9 n9 M)
          | ((with_reducible refine at_alloc 49 rfl ?_); refine alW 49 rfl rfl (zeroRJ _) HM.out ?_; intro w9 n9 M)); replace HM := Lib.hid M; clear M; clear fM; have fM := HM.out.fa)))
    all_goals clear fM
    refine nxt HM fun w0 M => ?_
    clear HM; have HM := M; clear M
    obtain ⟨g, o, rfl, hg, d0, d1, d2, d3⟩ := ln_x (HV.out.ext HM.out.extTo) k HK.out
    rw [HX.out] at d0 d1 d2 d3
    have fM := HM.out.fa
    have hE0 : Keeps NoB w0 w0.drew := (Keeps.refl _ _).drew
    refine wp_region_plan [(0, 0), (0, 1), (3, 2), (0, 3), (3, 4), (0, 5), (0, 6), (3, 7), (0, 8), (3, 9), (0, 10)] [] [] [] (ClsE w0) (by kernel_rfl) (by kernel_rfl) (by kernel_rfl) rfl rfl (ClsE.of hE0) (fun _ _ _ d _ h => by cases d <;> exact h) ?_; simp only [planL, nL]
    iterate 2 (refine pR (v := ?_) rfl (fun W => ?_) ?_; rotate_left; (go_simp <;> with_reducible rfl); simp only [nP])
    refine pX (v := ?_) rfl ?_ ?_; rotate_left; (go_simp <;> with_reducible rfl); simp only [nP]
    refine pR (v := ?_) rfl (fun W => ?_) ?_; rotate_left; (go_simp <;> with_reducible rfl); simp only [nP]
    refine pX (v := ?_) rfl ?_ ?_; rotate_left; (go_simp <;> with_reducible rfl); simp only [nP]
    iterate 2 (refine pR (v := ?_) rfl (fun W => ?_) ?_; rotate_left; (go_simp <;> with_reducible rfl); simp only [nP])
    refine pX (v := ?_) rfl ?_ ?_; rotate_left; (go_simp <;> with_reducible rfl); simp only [nP]
    refine pR (v := ?_) rfl (fun W => ?_) ?_; rotate_left; (go_simp <;> with_reducible rfl); simp only [nP]
    refine pX (v := ?_) rfl ?_ ?_; rotate_left; (go_simp <;> with_reducible rfl); simp only [nP]
    refine pR (v := ?_) rfl (fun W => ?_) ?_; rotate_left; (go_simp <;> with_reducible rfl); simp only [nP]
    refine plan_nil ?_; simp only [tailL, List.filterMap_nil]
    go_wp2_with (first
      | ((with_reducible refine at_list ?_); first
        | ((with_reducible refine at_load 49 _ rfl ?_); refine ldW 49 _ rfl rfl rfl HM.out Tryd.underlying49 rfl infoRJ ?_)
        | ((first
          | ((with_reducible refine at_store 49 _ _ rfl ?_); refine stW 49 _ _ rfl rfl rfl rfl HM.out infoRJ ?_; intro w9 M)
          | ((with_reducible refine at_box 49 _ rfl ?_); refine boW 49 _ rfl rfl rfl HM.out ?_; intro w9 n9 M)
          | ((with_reducible refine at_alloc 49 rfl ?_); refine alW 49 rfl rfl (zeroRJ _) HM.out ?_; intro w9 n9 M)); replace HM := Lib.hid M; clear M; clear fM; have fM := HM.out.fa)))
    clear fM
    refine bodyPost_ret (rtW 49 Tryd.results26 _ rfl HM.out Tryd.underlying49 rfl infoRJ) rfl ?_
    refine ⟨_, rfl, (HR.out).ext ?_, ?_⟩ <;> (apply Mem.extTo; exact HM.out.to)
theorem rbegan_any {A : Nat → Prop} (w : World) (J : JA) (cs : List Value) (p : Nat) (index : Int) (e : En) (h : RefAt w A J cs) (hp : p < 16) (hi : 0 ≤ index) (hl : J.T.l.length ≤ 4096) :
    Calls Tryd.prog 26 #[.agg cs.toArray, (⟨4, p, index, e⟩ : Sn).v] w fun r w' => ∃ cs', r = .returned (.tuple #[.agg cs'.toArray, .int .i64 (beganR J p index).2]) ∧ RefAt w' A (beganR J p index).1 cs' ∧ Ext w w' := by
  obtain ⟨al, cl, ap, cp, hlen, hone, -, -, -, c3, -, cN, -, -, hvl, -⟩ := h.open
  have cp := cN p hp
  have HR := Lib.hid h
  have HV := Lib.hid hvl
  have HLEN := Lib.hid hlen
  have HONE := Lib.hid hone
  have HWD : Wd _ _ := ⟨HLEN.out, HONE.out⟩
  have HP := Lib.hid hp
  have HM := Lib.hid (Mem.start0 w)
  have g1 : (p : Int) < 16 := by omega
  have g2 : ¬ (p : Int) < 0 := by omega
  obtain ⟨n, hn⟩ : ∃ n, J.next.getD p 0 = n := ⟨_, rfl⟩
  rw [hn] at cp
  have HN := Lib.hid hn
  clear h hlen hone cN hn hp hvl
  unfold Sn.v
  dsimp only
  have HL := Lib.hid hl
  obtain ⟨k, rfl⟩ : ∃ k : Nat, index = k := ⟨index.toNat, by omega⟩
  clear hl hi
  by_cases h0 : n < 0
  · have h0' : ¬ 0 ≤ n := by omega
    by_cases hk : k < J.T.l.length
    · have gk : ¬ (J.T.l.length : Int) < (k : Int) := by omega
      have gk2 : ((k : Int) == (J.T.l.length : Int)) = false := beq_eq_false_iff_ne.2 (by omega)
      have gk3 : (k : Int) < (J.T.l.length : Int) := by omega
      have hb := hasB_at J.T.l k hk ⟨2, p, 0, []⟩
      obtain ⟨x, hx⟩ : ∃ x, J.T.l[k].e = x := ⟨_, rfl⟩
      rw [hx] at hb
      have HX := Lib.hid hx
      have HK := Lib.hid hk
      have hq1 : ∀ W, (binOp .neq 35 (.agg #[.int .i64 x.kind, .int .i64 x.member, .int .i64 x.number, .string (bs x.text)]) (.agg #[.int .i64 2, .int .i64 (p : Int), .int .i64 0, .string ⟨#[]⟩])).run Tryd.prog W = .ok (.bool (!decide (x = ⟨2, p, 0, []⟩))) W := fun W => ne_en x ⟨2, p, 0, []⟩ W
      clear hx
      by_cases hd : x = ⟨2, p, 0, []⟩
      · rw [decide_eq_true hd] at hb hq1
        have hq : beganR J p k = ({ J with next := J.next.set p (k : Int) }, 0) := by
          unfold beganR
          rw [HN.out, if_neg (fun h => h (.inl h0)), if_neg (fun h => h ⟨by omega, .inr gk3⟩), if_neg (fun h => h (.inr hb))]
        rw [hq]
        clear hq hb hd
        go_enter Tryd.func26, Tryd.ntmps26
        have fM := HM.out.fa
        go_wp2_with (first
          | ((with_reducible refine at_list ?_); first
            | ((with_reducible refine at_load 49 _ rfl ?_); refine ldW 49 _ rfl rfl rfl HM.out Tryd.underlying49 rfl infoRJ ?_)
            | ((first
              | ((with_reducible refine at_store 49 _ _ rfl ?_); refine stW 49 _ _ rfl rfl rfl rfl HM.out infoRJ ?_; intro w9 M)
              | ((with_reducible refine at_box 49 _ rfl ?_); refine boW 49 _ rfl rfl rfl HM.out ?_; intro w9 n9 M)
              | ((with_reducible refine at_alloc 49 rfl ?_); refine alW 49 rfl rfl (zeroRJ _) HM.out ?_; intro w9 n9 M)); replace HM := Lib.hid M; clear M; clear fM; have fM := HM.out.fa)))
        all_goals clear fM
        refine nxt HM fun w0 M => ?_
        clear HM; have HM := M; clear M
        obtain ⟨g, o, rfl, hg, d0, d1, d2, d3⟩ := ln_x (HV.out.ext HM.out.extTo) k HK.out
        rw [HX.out] at d0 d1 d2 d3
        have fM := HM.out.fa
        have hE0 : Keeps NoB w0 w0.drew := (Keeps.refl _ _).drew
        refine wp_region_plan [(0, 0), (0, 1), (0, 2), (0, 3), (0, 4), (3, 5), (0, 6), (3, 7), (0, 8), (0, 9), (3, 10), (0, 11), (3, 12), (0, 13), (0, 14), (0, 15)] [] [] [] (ClsE w0) (by kernel_rfl) (by kernel_rfl) (by kernel_rfl) rfl rfl (ClsE.of hE0) (fun _ _ _ d _ h => by cases d <;> exact h) ?_; simp only [planL, nL]
        refine pM _ rfl rfl ?_; simp only [nP, nE]
        refine pR (v := ?_) rfl (fun W => ?_) ?_; rotate_left; (go_simp <;> with_reducible rfl); simp only [nP]
        refine pM _ rfl rfl ?_; simp only [nP, nE]
        iterate 2 ((first | (refine plan_skip rfl ?_; simp only [nP]) | (refine pR (v := ?_) rfl (fun W => ?_) ?_; rotate_left; (go_simp <;> with_reducible rfl); simp only [nP])))
        (first | (refine plan_skip rfl ?_; simp only [nP]) | (refine pX (v := ?_) rfl ?_ ?_; rotate_left; (go_simp <;> with_reducible rfl); simp only [nP]))
        (first | (refine plan_skip rfl ?_; simp only [nP]) | (refine pR (v := ?_) rfl (fun W => ?_) ?_; rotate_left; (go_simp <;> with_reducible rfl); simp only [nP]))
        (first | (refine plan_skip rfl ?_; simp only [nP]) | (refine pX (v := ?_) rfl ?_ ?_; rotate_left; (go_simp <;> with_reducible rfl); simp only [nP]))
        iterate 2 ((first | (refine plan_skip rfl ?_; simp only [nP]) | (refine pR (v := ?_) rfl (fun W => ?_) ?_; rotate_left; (go_simp <;> with_reducible rfl); simp only [nP])))
        (first | (refine plan_skip rfl ?_; simp only [nP]) | (refine pX (v := ?_) rfl ?_ ?_; rotate_left; (go_simp <;> with_reducible rfl); simp only [nP]))
        (first | (refine plan_skip rfl ?_; simp only [nP]) | (refine pR (v := ?_) rfl (fun W => ?_) ?_; rotate_left; (go_simp <;> with_reducible rfl); simp only [nP]))
        (first | (refine plan_skip rfl ?_; simp only [nP]) | (refine pX (v := ?_) rfl ?_ ?_; rotate_left; (go_simp <;> with_reducible rfl); simp only [nP]))
        iterate 2 ((first | (refine plan_skip rfl ?_; simp only [nP]) | (refine pR (v := ?_) rfl (fun W => ?_) ?_; rotate_left; (go_simp <;> with_reducible rfl); simp only [nP])))
        refine pR (v := ?_) rfl (fun W => ?_) ?_; rotate_left; (go_simp <;> with_reducible rfl); simp only [nP]
        refine plan_nil ?_; simp only [tailL, List.filterMap_nil]
        go_wp2_with (first
          | ((with_reducible refine at_list ?_); first
            | ((with_reducible refine at_load 49 _ rfl ?_); refine ldW 49 _ rfl rfl rfl HM.out Tryd.underlying49 rfl infoRJ ?_)
            | ((first
              | ((with_reducible refine at_store 49 _ _ rfl ?_); refine stW 49 _ _ rfl rfl rfl rfl HM.out infoRJ ?_; intro w9 M)
              | ((with_reducible refine at_box 49 _ rfl ?_); refine boW 49 _ rfl rfl rfl HM.out ?_; intro w9 n9 M)
              | ((with_reducible refine at_alloc 49 rfl ?_); refine alW 49 rfl rfl (zeroRJ _) HM.out ?_; intro w9 n9 M)); replace HM := Lib.hid M; clear M; clear fM; have fM := HM.out.fa)))
        clear fM
        refine bodyPost_ret (rtW 49 Tryd.results26 _ rfl HM.out Tryd.underlying49 rfl infoRJ) rfl ?_
        refine ⟨_, rfl, (HR.out.setNext p HP.out _).ext ?_, ?_⟩ <;> (apply Mem.extTo; exact HM.out.to)
      · rw [decide_eq_false hd] at hb hq1
        have hq : beganR J p k = (J, 406) := by
          unfold beganR
          rw [HN.out, if_neg (fun h => h (.inl h0)), if_neg (fun h => h ⟨by omega, .inr gk3⟩), if_pos (fun h => by rcases h with h | h; exact h h0; rw [hb] at h; cases h)]
        rw [hq]
        clear hq hb hd
        go_enter Tryd.func26, Tryd.ntmps26
        have fM := HM.out.fa
        go_wp2_with (first
          | ((with_reducible refine at_list ?_); first
            | ((with_reducible refine at_load 49 _ rfl ?_); refine ldW 49 _ rfl rfl rfl HM.out Tryd.underlying49 rfl infoRJ ?_)
            | ((first
              | ((with_reducible refine at_store 49 _ _ rfl ?_); refine stW 49 _ _ rfl rfl rfl rfl HM.out infoRJ ?_; intro w9 M)
              | ((with_reducible refine at_box 49 _ rfl ?_); refine boW 49 _ rfl rfl rfl HM.out ?_; intro w9 n9 M)
              | ((with_reducible refine at_alloc 49 rfl ?_); refine alW 49 rfl rfl (zeroRJ _) HM.out ?_; intro w9 n9 M)); replace HM := Lib.hid M; clear M; clear fM; have fM := HM.out.fa)))
        all_goals clear fM
        refine nxt HM fun w0 M => ?_
        clear HM; have HM := M; clear M
        obtain ⟨g, o, rfl, hg, d0, d1, d2, d3⟩ := ln_x (HV.out.ext HM.out.extTo) k HK.out
        rw [HX.out] at d0 d1 d2 d3
        have fM := HM.out.fa
        have hE0 : Keeps NoB w0 w0.drew := (Keeps.refl _ _).drew
        refine wp_region_plan [(0, 0), (0, 1), (0, 2), (0, 3), (0, 4), (3, 5), (0, 6), (3, 7), (0, 8), (0, 9), (3, 10), (0, 11), (3, 12), (0, 13), (0, 14), (0, 15)] [] [] [] (ClsE w0) (by kernel_rfl) (by kernel_rfl) (by kernel_rfl) rfl rfl (ClsE.of hE0) (fun _ _ _ d _ h => by cases d <;> exact h) ?_; simp only [planL, nL]
        refine pM _ rfl rfl ?_; simp only [nP, nE]
        refine pR (v := ?_) rfl (fun W => ?_) ?_; rotate_left; (go_simp <;> with_reducible rfl); simp only [nP]
        refine pM _ rfl rfl ?_; simp only [nP, nE]
        iterate 2 ((first | (refine plan_skip rfl ?_; simp only [nP]) | (refine pR (v := ?_) rfl (fun W => ?_) ?_; rotate_left; (go_simp <;> with_reducible rfl); simp only [nP])))
        (first | (refine plan_skip rfl ?_; simp only [nP]) | (refine pX (v := ?_) rfl ?_ ?_; rotate_left; (go_simp <;> with_reducible rfl); simp only [nP]))
        (first | (refine plan_skip rfl ?_; simp only [nP]) | (refine pR (v := ?_) rfl (fun W => ?_) ?_; rotate_left; (go_simp <;> with_reducible rfl); simp only [nP]))
        (first | (refine plan_skip rfl ?_; simp only [nP]) | (refine pX (v := ?_) rfl ?_ ?_; rotate_left; (go_simp <;> with_reducible rfl); simp only [nP]))
        iterate 2 ((first | (refine plan_skip rfl ?_; simp only [nP]) | (refine pR (v := ?_) rfl (fun W => ?_) ?_; rotate_left; (go_simp <;> with_reducible rfl); simp only [nP])))
        (first | (refine plan_skip rfl ?_; simp only [nP]) | (refine pX (v := ?_) rfl ?_ ?_; rotate_left; (go_simp <;> with_reducible rfl); simp only [nP]))
        (first | (refine plan_skip rfl ?_; simp only [nP]) | (refine pR (v := ?_) rfl (fun W => ?_) ?_; rotate_left; (go_simp <;> with_reducible rfl); simp only [nP]))
        (first | (refine plan_skip rfl ?_; simp only [nP]) | (refine pX (v := ?_) rfl ?_ ?_; rotate_left; (go_simp <;> with_reducible rfl); simp only [nP]))
        iterate 2 ((first | (refine plan_skip rfl ?_; simp only [nP]) | (refine pR (v := ?_) rfl (fun W => ?_) ?_; rotate_left; (go_simp <;> with_reducible rfl); simp only [nP])))
        refine pR (v := ?_) rfl (fun W => ?_) ?_; rotate_left; (go_simp <;> with_reducible rfl); simp only [nP]
        refine plan_nil ?_; simp only [tailL, List.filterMap_nil]
        go_wp2_with (first
          | ((with_reducible refine at_list ?_); first
            | ((with_reducible refine at_load 49 _ rfl ?_); refine ldW 49 _ rfl rfl rfl HM.out Tryd.underlying49 rfl infoRJ ?_)
            | ((first
              | ((with_reducible refine at_store 49 _ _ rfl ?_); refine stW 49 _ _ rfl rfl rfl rfl HM.out infoRJ ?_; intro w9 M)
              | ((with_reducible refine at_box 49 _ rfl ?_); refine boW 49 _ rfl rfl rfl HM.out ?_; intro w9 n9 M)
              | ((with_reducible refine at_alloc 49 rfl ?_); refine alW 49 rfl rfl (zeroRJ _) HM.out ?_; intro w9 n9 M)); replace HM := Lib.hid M; clear M; clear fM; have fM := HM.out.fa)))
        clear fM
        refine bodyPost_ret (rtW 49 Tryd.results26 _ rfl HM.out Tryd.underlying49 rfl infoRJ) rfl ?_
        refine ⟨_, rfl, (HR.out).ext ?_, ?_⟩ <;> (apply Mem.extTo; exact HM.out.to)
    · have hq : beganR J p k = (J, 405) := by
        unfold beganR
        rw [HN.out, if_neg (fun h => h (.inl h0)), if_pos (fun h => by have := h.2; omega)]
      rw [hq]
      clear hq
      by_cases he : k = J.T.l.length
      · have gk : ¬ (J.T.l.length : Int) < (k : Int) := by omega
        have gk2 : ((k : Int) == (J.T.l.length : Int)) = true := by rw [he]; exact beq_self_eq_true _
        clear he hk
        go_enter Tryd.func26, Tryd.ntmps26
        have fM := HM.out.fa
        go_wp2_with (first
          | ((with_reducible refine at_list ?_); first
            | ((with_reducible refine at_load 49 _ rfl ?_); refine ldW 49 _ rfl rfl rfl HM.out Tryd.underlying49 rfl infoRJ ?_)
            | ((first
              | ((with_reducible refine at_store 49 _ _ rfl ?_); refine stW 49 _ _ rfl rfl rfl rfl HM.out infoRJ ?_; intro w9 M)
              | ((with_reducible refine at_box 49 _ rfl ?_); refine boW 49 _ rfl rfl rfl HM.out ?_; intro w9 n9 M)
              | ((with_reducible refine at_alloc 49 rfl ?_); refine alW 49 rfl rfl (zeroRJ _) HM.out ?_; intro w9 n9 M)); replace HM := Lib.hid M; clear M; clear fM; have fM := HM.out.fa)))
        all_goals clear fM
        refine bodyPost_ret (rtW 49 Tryd.results26 _ rfl HM.out Tryd.underlying49 rfl infoRJ) rfl ?_
        refine ⟨_, rfl, (HR.out).ext ?_, ?_⟩ <;> (apply Mem.extTo; exact HM.out.to)
      · have gk : (J.T.l.length : Int) < (k : Int) := by omega
        clear he hk
        go_enter Tryd.func26, Tryd.ntmps26
        have fM := HM.out.fa
        go_wp2_with (first
          | ((with_reducible refine at_list ?_); first
            | ((with_reducible refine at_load 49 _ rfl ?_); refine ldW 49 _ rfl rfl rfl HM.out Tryd.underlying49 rfl infoRJ ?_)
            | ((first
              | ((with_reducible refine at_store 49 _ _ rfl ?_); refine stW 49 _ _ rfl rfl rfl rfl HM.out infoRJ ?_; intro w9 M)
              | ((with_reducible refine at_box 49 _ rfl ?_); refine boW 49 _ rfl rfl rfl HM.out ?_; intro w9 n9 M)
              | ((with_reducible refine at_alloc 49 rfl ?_); refine alW 49 rfl rfl (zeroRJ _) HM.out ?_; intro w9 n9 M)); replace HM := Lib.hid M; clear M; clear fM; have fM := HM.out.fa)))
        all_goals clear fM
        refine bodyPost_ret (rtW 49 Tryd.results26 _ rfl HM.out Tryd.underlying49 rfl infoRJ) rfl ?_
        refine ⟨_, rfl, (HR.out).ext ?_, ?_⟩ <;> (apply Mem.extTo; exact HM.out.to)
  · have h0' : 0 ≤ n := by omega
    by_cases hx : n = k
    case neg =>
      have hq : beganR J p k = (J, 403) := by
        unfold beganR
        rw [HN.out, if_pos (fun h => by rcases h with h | h; exact h0 h; exact hx h)]
      rw [hq]
      have hx' : (n != (k : Int)) = true := by simpa using hx
      clear hq hx
      go_enter Tryd.func26, Tryd.ntmps26
      have fM := HM.out.fa
      go_wp2_with (first
        | ((with_reducible refine at_list ?_); first
          | ((with_reducible refine at_load 49 _ rfl ?_); refine ldW 49 _ rfl rfl rfl HM.out Tryd.underlying49 rfl infoRJ ?_)
          | ((first
            | ((with_reducible refine at_store 49 _ _ rfl ?_); refine stW 49 _ _ rfl rfl rfl rfl HM.out infoRJ ?_; intro w9 M)
            | ((with_reducible refine at_box 49 _ rfl ?_); refine boW 49 _ rfl rfl rfl HM.out ?_; intro w9 n9 M)
            | ((with_reducible refine at_alloc 49 rfl ?_); refine alW 49 rfl rfl (zeroRJ _) HM.out ?_; intro w9 n9 M)); replace HM := Lib.hid M; clear M; clear fM; have fM := HM.out.fa)))
      all_goals clear fM
      refine bodyPost_ret (rtW 49 Tryd.results26 _ rfl HM.out Tryd.underlying49 rfl infoRJ) rfl ?_
      refine ⟨_, rfl, (HR.out).ext ?_, ?_⟩ <;> (apply Mem.extTo; exact HM.out.to)
    subst hx
    by_cases hk : k ≤ J.T.l.length
    · have hq : beganR J p k = ({ J with next := J.next.set p (k : Int) }, 0) := by
        unfold beganR
        rw [HN.out, if_neg (fun h => h (.inr rfl)), if_neg (fun h => h ⟨by omega, .inl h0⟩), if_neg (fun h => h (.inl h0))]
      rw [hq]
      have gk : ¬ (J.T.l.length : Int) < (k : Int) := by omega
      clear hq hk
      go_enter Tryd.func26, Tryd.ntmps26
      have fM := HM.out.fa
      go_wp2_with (first
        | ((with_reducible refine at_list ?_); first
          | ((with_reducible refine at_load 49 _ rfl ?_); refine ldW 49 _ rfl rfl rfl HM.out Tryd.underlying49 rfl infoRJ ?_)
          | ((first
            | ((with_reducible refine at_store 49 _ _ rfl ?_); refine stW 49 _ _ rfl rfl rfl rfl HM.out infoRJ ?_; intro w9 M)
            | ((with_reducible refine at_box 49 _ rfl ?_); refine boW 49 _ rfl rfl rfl HM.out ?_; intro w9 n9 M)
            | ((with_reducible refine at_alloc 49 rfl ?_); refine alW 49 rfl rfl (zeroRJ _) HM.out ?_; intro w9 n9 M)); replace HM := Lib.hid M; clear M; clear fM; have fM := HM.out.fa)))
      all_goals clear fM
      refine nxt HM fun w0 M => ?_
      clear HM; have HM := M; clear M
      have fM := HM.out.fa
      have hE0 : Keeps NoB w0 w0.drew := (Keeps.refl _ _).drew
      refine wp_region_plan [(0, 0), (0, 1), (0, 2), (0, 3), (0, 4), (3, 5), (0, 6), (3, 7), (0, 8), (0, 9), (3, 10), (0, 11), (3, 12), (0, 13), (0, 14), (0, 15)] [] [] [] (ClsE w0) (by kernel_rfl) (by kernel_rfl) (by kernel_rfl) rfl rfl (ClsE.of hE0) (fun _ _ _ d _ h => by cases d <;> exact h) ?_; simp only [planL, nL]
      refine pM _ rfl rfl ?_; simp only [nP, nE]
      refine pR (v := ?_) rfl (fun W => ?_) ?_; rotate_left; (go_simp <;> with_reducible rfl); simp only [nP]
      refine pM _ rfl rfl ?_; simp only [nP, nE]
      iterate 2 ((first | (refine plan_skip rfl ?_; simp only [nP]) | (refine pR (v := ?_) rfl (fun W => ?_) ?_; rotate_left; (go_simp <;> with_reducible rfl); simp only [nP])))
      (first | (refine plan_skip rfl ?_; simp only [nP]) | (refine pX (v := ?_) rfl ?_ ?_; rotate_left; (go_simp <;> with_reducible rfl); simp only [nP]))
      (first | (refine plan_skip rfl ?_; simp only [nP]) | (refine pR (v := ?_) rfl (fun W => ?_) ?_; rotate_left; (go_simp <;> with_reducible rfl); simp only [nP]))
      (first | (refine plan_skip rfl ?_; simp only [nP]) | (refine pX (v := ?_) rfl ?_ ?_; rotate_left; (go_simp <;> with_reducible rfl); simp only [nP]))
      iterate 2 ((first | (refine plan_skip rfl ?_; simp only [nP]) | (refine pR (v := ?_) rfl (fun W => ?_) ?_; rotate_left; (go_simp <;> with_reducible rfl); simp only [nP])))
      (first | (refine plan_skip rfl ?_; simp only [nP]) | (refine pX (v := ?_) rfl ?_ ?_; rotate_left; (go_simp <;> with_reducible rfl); simp only [nP]))
      (first | (refine plan_skip rfl ?_; simp only [nP]) | (refine pR (v := ?_) rfl (fun W => ?_) ?_; rotate_left; (go_simp <;> with_reducible rfl); simp only [nP]))
      (first | (refine plan_skip rfl ?_; simp only [nP]) | (refine pX (v := ?_) rfl ?_ ?_; rotate_left; (go_simp <;> with_reducible rfl); simp only [nP]))
      iterate 2 ((first | (refine plan_skip rfl ?_; simp only [nP]) | (refine pR (v := ?_) rfl (fun W => ?_) ?_; rotate_left; (go_simp <;> with_reducible rfl); simp only [nP])))
      refine pR (v := ?_) rfl (fun W => ?_) ?_; rotate_left; (go_simp <;> with_reducible rfl); simp only [nP]
      refine plan_nil ?_; simp only [tailL, List.filterMap_nil]
      go_wp2_with (first
        | ((with_reducible refine at_list ?_); first
          | ((with_reducible refine at_load 49 _ rfl ?_); refine ldW 49 _ rfl rfl rfl HM.out Tryd.underlying49 rfl infoRJ ?_)
          | ((first
            | ((with_reducible refine at_store 49 _ _ rfl ?_); refine stW 49 _ _ rfl rfl rfl rfl HM.out infoRJ ?_; intro w9 M)
            | ((with_reducible refine at_box 49 _ rfl ?_); refine boW 49 _ rfl rfl rfl HM.out ?_; intro w9 n9 M)
            | ((with_reducible refine at_alloc 49 rfl ?_); refine alW 49 rfl rfl (zeroRJ _) HM.out ?_; intro w9 n9 M)); replace HM := Lib.hid M; clear M; clear fM; have fM := HM.out.fa)))
      clear fM
      refine bodyPost_ret (rtW 49 Tryd.results26 _ rfl HM.out Tryd.underlying49 rfl infoRJ) rfl ?_
      refine ⟨_, rfl, (HR.out.setNext p HP.out _).ext ?_, ?_⟩ <;> (apply Mem.extTo; exact HM.out.to)
    · have hq : beganR J p k = (J, 405) := by
        unfold beganR
        rw [HN.out, if_neg (fun h => h (.inr rfl)), if_pos (fun h => by have := h.1; omega)]
      rw [hq]
      have gk : (J.T.l.length : Int) < (k : Int) := by omega
      clear hq hk
      go_enter Tryd.func26, Tryd.ntmps26
      have fM := HM.out.fa
      go_wp2_with (first
        | ((with_reducible refine at_list ?_); first
          | ((with_reducible refine at_load 49 _ rfl ?_); refine ldW 49 _ rfl rfl rfl HM.out Tryd.underlying49 rfl infoRJ ?_)
          | ((first
            | ((with_reducible refine at_store 49 _ _ rfl ?_); refine stW 49 _ _ rfl rfl rfl rfl HM.out infoRJ ?_; intro w9 M)
            | ((with_reducible refine at_box 49 _ rfl ?_); refine boW 49 _ rfl rfl rfl HM.out ?_; intro w9 n9 M)
            | ((with_reducible refine at_alloc 49 rfl ?_); refine alW 49 rfl rfl (zeroRJ _) HM.out ?_; intro w9 n9 M)); replace HM := Lib.hid M; clear M; clear fM; have fM := HM.out.fa)))
      all_goals clear fM
      refine bodyPost_ret (rtW 49 Tryd.results26 _ rfl HM.out Tryd.underlying49 rfl infoRJ) rfl ?_
      refine ⟨_, rfl, (HR.out).ext ?_, ?_⟩ <;> (apply Mem.extTo; exact HM.out.to)
end Go.Proofs.YthhdgjofagdjeaaDoor
end
section
/- The document's judge: may something be seen? Condition: the judge reads as 'RefAt' says; the entry's text has at most 500000 bytes. -/
set_option linter.unusedVariables false
set_option linter.unusedSimpArgs false
set_option maxHeartbeats 4000000
set_option maxRecDepth 100000
namespace Go.Proofs.YthhdgjofagdjeaaDoor
open Go.RowKit Go.Shelf
theorem mayE_none {J : JA} {x : Sn} (h : ¬ (1 ≤ x.kind ∧ x.kind ≤ 6)) : mayE J x = 2 := by
  unfold mayE kindF
  rw [if_neg (by omega), if_neg (by omega), if_neg (by omega), if_neg (by omega), if_neg (by omega), if_neg (by omega)]
theorem rmay_1 {A : Nat → Prop} (w : World) (J : JA) (cs : List Value) (who index : Int) (e : En) (h : RefAt w A J cs) (ht : e.text.length ≤ 500000) :
    Calls Tryd.prog 23 #[.agg cs.toArray, (⟨1, who, index, e⟩ : Sn).v] w fun r w' => r = .returned (.int .i64 (mayE J ⟨1, who, index, e⟩)) ∧ Ext w w' := by
  have HT := Lib.hid ht
  clear ht
  obtain ⟨al, cl, ap, cp, hlen, hone, c0, c1, -, -, -, -, -, -, -, -⟩ := h.open
  have HLEN := Lib.hid hlen
  have HONE := Lib.hid hone
  have HWD : Wd _ _ := ⟨HLEN.out, HONE.out⟩
  have HM := Lib.hid (Mem.start0 w)
  clear h hlen hone
  unfold Sn.v
  dsimp only
  have HK : Hid (mayE J ⟨1, who, index, e⟩ = if index < 0 ∨ (e.kind = 1 ∨ enB e = false) then 2 else if who < 0 ∨ J.m ≤ who then 4 else 0) := Lib.hid (by simp [mayE, kindF])
  by_cases hi : index < 0
  · have HQ : Hid (mayE J ⟨1, who, index, e⟩ = 2) := Lib.hid (by rw [HK.out, if_pos (.inl hi)])
    clear HK
    go_enter Tryd.func23, Tryd.ntmps23
    have fM := HM.out.fa
    go_wp2_with (first
      | ((with_reducible refine at_list ?_); first
        | ((with_reducible refine at_load 49 _ rfl ?_); refine ldW 49 _ rfl rfl rfl HM.out Tryd.underlying49 rfl infoRJ ?_)
        | ((first
          | ((with_reducible refine at_store 49 _ _ rfl ?_); refine stW 49 _ _ rfl rfl rfl rfl HM.out infoRJ ?_; intro w9 M)
          | ((with_reducible refine at_box 49 _ rfl ?_); refine boW 49 _ rfl rfl rfl HM.out ?_; intro w9 n9 M)
          | ((with_reducible refine at_alloc 49 rfl ?_); refine alW 49 rfl rfl (zeroRJ _) HM.out ?_; intro w9 n9 M)); replace HM := Lib.hid M; clear M; clear fM; have fM := HM.out.fa)))
    all_goals clear fM
    go_ret
    refine ⟨?_, ?_⟩
    rotate_left
    · apply Mem.extTo
      exact HM.out.to
    rw [HQ.out]
    rfl
  have HEV := Lib.hid (show e.v = .agg #[.int .i64 e.kind, .int .i64 e.member, .int .i64 e.number, .string (bs e.text)] from rfl)
  have HI := Lib.hid hi
  go_enter Tryd.func23, Tryd.ntmps23
  have fM := HM.out.fa
  go_wp2_with (first
    | ((with_reducible refine at_list ?_); first
      | ((with_reducible refine at_load 49 _ rfl ?_); refine ldW 49 _ rfl rfl rfl HM.out Tryd.underlying49 rfl infoRJ ?_)
      | ((first
        | ((with_reducible refine at_store 49 _ _ rfl ?_); refine stW 49 _ _ rfl rfl rfl rfl HM.out infoRJ ?_; intro w9 M)
        | ((with_reducible refine at_box 49 _ rfl ?_); refine boW 49 _ rfl rfl rfl HM.out ?_; intro w9 n9 M)
        | ((with_reducible refine at_alloc 49 rfl ?_); refine alW 49 rfl rfl (zeroRJ _) HM.out ?_; intro w9 n9 M)); replace HM := Lib.hid M; clear M; clear fM; have fM := HM.out.fa)))
  all_goals clear fM
  refine nxt HM fun w0 M => ?_
  clear HM; have HM := M; clear M
  rw [← HEV.out]
  refine (entry14_any w0 e HT.out).mono ?_
  rintro r w1 ⟨rfl, hE⟩
  replace HM := Lib.hid (HM.out.ext hE)
  clear hE hi
  have hi : ¬ index < 0 := by have := HI.out; omega
  cases hb : enB e
  · have HQ : Hid (mayE J ⟨1, who, index, e⟩ = 2) := Lib.hid (by rw [HK.out, if_pos (.inr (.inr hb))])
    clear HK hb
    have fM := HM.out.fa
    go_wp2_with (first
      | ((with_reducible refine at_list ?_); first
        | ((with_reducible refine at_load 49 _ rfl ?_); refine ldW 49 _ rfl rfl rfl HM.out Tryd.underlying49 rfl infoRJ ?_)
        | ((first
          | ((with_reducible refine at_store 49 _ _ rfl ?_); refine stW 49 _ _ rfl rfl rfl rfl HM.out infoRJ ?_; intro w9 M)
          | ((with_reducible refine at_box 49 _ rfl ?_); refine boW 49 _ rfl rfl rfl HM.out ?_; intro w9 n9 M)
          | ((with_reducible refine at_alloc 49 rfl ?_); refine alW 49 rfl rfl (zeroRJ _) HM.out ?_; intro w9 n9 M)); replace HM := Lib.hid M; clear M; clear fM; have fM := HM.out.fa)))
    all_goals clear fM
    go_ret
    refine ⟨?_, ?_⟩
    rotate_left
    · apply Mem.extTo
      exact HM.out.to
    rw [HQ.out]
    rfl
  by_cases hk : e.kind = 1
  · have HQ : Hid (mayE J ⟨1, who, index, e⟩ = 2) := Lib.hid (by rw [HK.out, if_pos (.inr (.inl hk))])
    clear HK hb
    have fM := HM.out.fa
    go_wp2_with (first
      | ((with_reducible refine at_list ?_); first
        | ((with_reducible refine at_load 49 _ rfl ?_); refine ldW 49 _ rfl rfl rfl HM.out Tryd.underlying49 rfl infoRJ ?_)
        | ((first
          | ((with_reducible refine at_store 49 _ _ rfl ?_); refine stW 49 _ _ rfl rfl rfl rfl HM.out infoRJ ?_; intro w9 M)
          | ((with_reducible refine at_box 49 _ rfl ?_); refine boW 49 _ rfl rfl rfl HM.out ?_; intro w9 n9 M)
          | ((with_reducible refine at_alloc 49 rfl ?_); refine alW 49 rfl rfl (zeroRJ _) HM.out ?_; intro w9 n9 M)); replace HM := Lib.hid M; clear M; clear fM; have fM := HM.out.fa)))
    all_goals clear fM
    go_ret
    refine ⟨?_, ?_⟩
    rotate_left
    · apply Mem.extTo
      exact HM.out.to
    rw [HQ.out]
    rfl
  have HNE : Hid (¬ (index < 0 ∨ (e.kind = 1 ∨ enB e = false))) := Lib.hid (fun h => by
    rcases h with h | h | h
    · exact hi h
    · exact hk h
    · rw [hb] at h; cases h)
  clear hb
  have hk' : (e.kind == 1) = false := by simpa using hk
  by_cases h3 : who < 0
  · have HQ : Hid (mayE J ⟨1, who, index, e⟩ = 4) := Lib.hid (by rw [HK.out, if_neg HNE.out, if_pos (.inl h3)])
    clear HK
    have fM := HM.out.fa
    go_wp2_with (first
      | ((with_reducible refine at_list ?_); first
        | ((with_reducible refine at_load 49 _ rfl ?_); refine ldW 49 _ rfl rfl rfl HM.out Tryd.underlying49 rfl infoRJ ?_)
        | ((first
          | ((with_reducible refine at_store 49 _ _ rfl ?_); refine stW 49 _ _ rfl rfl rfl rfl HM.out infoRJ ?_; intro w9 M)
          | ((with_reducible refine at_box 49 _ rfl ?_); refine boW 49 _ rfl rfl rfl HM.out ?_; intro w9 n9 M)
          | ((with_reducible refine at_alloc 49 rfl ?_); refine alW 49 rfl rfl (zeroRJ _) HM.out ?_; intro w9 n9 M)); replace HM := Lib.hid M; clear M; clear fM; have fM := HM.out.fa)))
    all_goals clear fM
    go_ret
    refine ⟨?_, ?_⟩
    rotate_left
    · apply Mem.extTo
      exact HM.out.to
    rw [HQ.out]
    rfl
  by_cases h4 : J.m ≤ who
  · have HQ : Hid (mayE J ⟨1, who, index, e⟩ = 4) := Lib.hid (by rw [HK.out, if_neg HNE.out, if_pos (.inr h4)])
    clear HK
    have fM := HM.out.fa
    go_wp2_with (first
      | ((with_reducible refine at_list ?_); first
        | ((with_reducible refine at_load 49 _ rfl ?_); refine ldW 49 _ rfl rfl rfl HM.out Tryd.underlying49 rfl infoRJ ?_)
        | ((first
          | ((with_reducible refine at_store 49 _ _ rfl ?_); refine stW 49 _ _ rfl rfl rfl rfl HM.out infoRJ ?_; intro w9 M)
          | ((with_reducible refine at_box 49 _ rfl ?_); refine boW 49 _ rfl rfl rfl HM.out ?_; intro w9 n9 M)
          | ((with_reducible refine at_alloc 49 rfl ?_); refine alW 49 rfl rfl (zeroRJ _) HM.out ?_; intro w9 n9 M)); replace HM := Lib.hid M; clear M; clear fM; have fM := HM.out.fa)))
    all_goals clear fM
    go_ret
    refine ⟨?_, ?_⟩
    rotate_left
    · apply Mem.extTo
      exact HM.out.to
    rw [HQ.out]
    rfl
  · have HQ : Hid (mayE J ⟨1, who, index, e⟩ = 0) := Lib.hid (by rw [HK.out, if_neg HNE.out, if_neg (fun h => by rcases h with h | h; exact h3 h; exact h4 h)])
    clear HK
    have fM := HM.out.fa
    go_wp2_with (first
      | ((with_reducible refine at_list ?_); first
        | ((with_reducible refine at_load 49 _ rfl ?_); refine ldW 49 _ rfl rfl rfl HM.out Tryd.underlying49 rfl infoRJ ?_)
        | ((first
          | ((with_reducible refine at_store 49 _ _ rfl ?_); refine stW 49 _ _ rfl rfl rfl rfl HM.out infoRJ ?_; intro w9 M)
          | ((with_reducible refine at_box 49 _ rfl ?_); refine boW 49 _ rfl rfl rfl HM.out ?_; intro w9 n9 M)
          | ((with_reducible refine at_alloc 49 rfl ?_); refine alW 49 rfl rfl (zeroRJ _) HM.out ?_; intro w9 n9 M)); replace HM := Lib.hid M; clear M; clear fM; have fM := HM.out.fa)))
    all_goals clear fM
    go_ret
    refine ⟨?_, ?_⟩
    rotate_left
    · apply Mem.extTo
      exact HM.out.to
    rw [HQ.out]
    rfl
theorem rmay_2 {A : Nat → Prop} (w : World) (J : JA) (cs : List Value) (who index : Int) (e : En) (h : RefAt w A J cs) (ht : e.text.length ≤ 500000) :
    Calls Tryd.prog 23 #[.agg cs.toArray, (⟨2, who, index, e⟩ : Sn).v] w fun r w' => r = .returned (.int .i64 (mayE J ⟨2, who, index, e⟩)) ∧ Ext w w' := by
  have HT := Lib.hid ht
  clear ht
  obtain ⟨al, cl, ap, cp, hlen, hone, c0, c1, -, -, -, -, -, -, -, -⟩ := h.open
  have HLEN := Lib.hid hlen
  have HONE := Lib.hid hone
  have HWD : Wd _ _ := ⟨HLEN.out, HONE.out⟩
  have HM := Lib.hid (Mem.start0 w)
  clear h hlen hone
  unfold Sn.v
  dsimp only
  have HK : Hid (mayE J ⟨2, who, index, e⟩ = if index < 0 ∨ (e.kind = 1 ∨ enB e = false) then 2 else if who < 0 ∨ J.n ≤ who then 4 else 0) := Lib.hid (by simp [mayE, kindF])
  by_cases hi : index < 0
  · have HQ : Hid (mayE J ⟨2, who, index, e⟩ = 2) := Lib.hid (by rw [HK.out, if_pos (.inl hi)])
    clear HK
    go_enter Tryd.func23, Tryd.ntmps23
    have fM := HM.out.fa
    go_wp2_with (first
      | ((with_reducible refine at_list ?_); first
        | ((with_reducible refine at_load 49 _ rfl ?_); refine ldW 49 _ rfl rfl rfl HM.out Tryd.underlying49 rfl infoRJ ?_)
        | ((first
          | ((with_reducible refine at_store 49 _ _ rfl ?_); refine stW 49 _ _ rfl rfl rfl rfl HM.out infoRJ ?_; intro w9 M)
          | ((with_reducible refine at_box 49 _ rfl ?_); refine boW 49 _ rfl rfl rfl HM.out ?_; intro w9 n9 M)
          | ((with_reducible refine at_alloc 49 rfl ?_); refine alW 49 rfl rfl (zeroRJ _) HM.out ?_; intro w9 n9 M)); replace HM := Lib.hid M; clear M; clear fM; have fM := HM.out.fa)))
    all_goals clear fM
    go_ret
    refine ⟨?_, ?_⟩
    rotate_left
    · apply Mem.extTo
      exact HM.out.to
    rw [HQ.out]
    rfl
  have HEV := Lib.hid (show e.v = .agg #[.int .i64 e.kind, .int .i64 e.member, .int .i64 e.number, .string (bs e.text)] from rfl)
  have HI := Lib.hid hi
  go_enter Tryd.func23, Tryd.ntmps23
  have fM := HM.out.fa
  go_wp2_with (first
    | ((with_reducible refine at_list ?_); first
      | ((with_reducible refine at_load 49 _ rfl ?_); refine ldW 49 _ rfl rfl rfl HM.out Tryd.underlying49 rfl infoRJ ?_)
      | ((first
        | ((with_reducible refine at_store 49 _ _ rfl ?_); refine stW 49 _ _ rfl rfl rfl rfl HM.out infoRJ ?_; intro w9 M)
        | ((with_reducible refine at_box 49 _ rfl ?_); refine boW 49 _ rfl rfl rfl HM.out ?_; intro w9 n9 M)
        | ((with_reducible refine at_alloc 49 rfl ?_); refine alW 49 rfl rfl (zeroRJ _) HM.out ?_; intro w9 n9 M)); replace HM := Lib.hid M; clear M; clear fM; have fM := HM.out.fa)))
  all_goals clear fM
  refine nxt HM fun w0 M => ?_
  clear HM; have HM := M; clear M
  rw [← HEV.out]
  refine (entry14_any w0 e HT.out).mono ?_
  rintro r w1 ⟨rfl, hE⟩
  replace HM := Lib.hid (HM.out.ext hE)
  clear hE hi
  have hi : ¬ index < 0 := by have := HI.out; omega
  cases hb : enB e
  · have HQ : Hid (mayE J ⟨2, who, index, e⟩ = 2) := Lib.hid (by rw [HK.out, if_pos (.inr (.inr hb))])
    clear HK hb
    have fM := HM.out.fa
    go_wp2_with (first
      | ((with_reducible refine at_list ?_); first
        | ((with_reducible refine at_load 49 _ rfl ?_); refine ldW 49 _ rfl rfl rfl HM.out Tryd.underlying49 rfl infoRJ ?_)
        | ((first
          | ((with_reducible refine at_store 49 _ _ rfl ?_); refine stW 49 _ _ rfl rfl rfl rfl HM.out infoRJ ?_; intro w9 M)
          | ((with_reducible refine at_box 49 _ rfl ?_); refine boW 49 _ rfl rfl rfl HM.out ?_; intro w9 n9 M)
          | ((with_reducible refine at_alloc 49 rfl ?_); refine alW 49 rfl rfl (zeroRJ _) HM.out ?_; intro w9 n9 M)); replace HM := Lib.hid M; clear M; clear fM; have fM := HM.out.fa)))
    all_goals clear fM
    go_ret
    refine ⟨?_, ?_⟩
    rotate_left
    · apply Mem.extTo
      exact HM.out.to
    rw [HQ.out]
    rfl
  by_cases hk : e.kind = 1
  · have HQ : Hid (mayE J ⟨2, who, index, e⟩ = 2) := Lib.hid (by rw [HK.out, if_pos (.inr (.inl hk))])
    clear HK hb
    have fM := HM.out.fa
    go_wp2_with (first
      | ((with_reducible refine at_list ?_); first
        | ((with_reducible refine at_load 49 _ rfl ?_); refine ldW 49 _ rfl rfl rfl HM.out Tryd.underlying49 rfl infoRJ ?_)
        | ((first
          | ((with_reducible refine at_store 49 _ _ rfl ?_); refine stW 49 _ _ rfl rfl rfl rfl HM.out infoRJ ?_; intro w9 M)
          | ((with_reducible refine at_box 49 _ rfl ?_); refine boW 49 _ rfl rfl rfl HM.out ?_; intro w9 n9 M)
          | ((with_reducible refine at_alloc 49 rfl ?_); refine alW 49 rfl rfl (zeroRJ _) HM.out ?_; intro w9 n9 M)); replace HM := Lib.hid M; clear M; clear fM; have fM := HM.out.fa)))
    all_goals clear fM
    go_ret
    refine ⟨?_, ?_⟩
    rotate_left
    · apply Mem.extTo
      exact HM.out.to
    rw [HQ.out]
    rfl
  have HNE : Hid (¬ (index < 0 ∨ (e.kind = 1 ∨ enB e = false))) := Lib.hid (fun h => by
    rcases h with h | h | h
    · exact hi h
    · exact hk h
    · rw [hb] at h; cases h)
  clear hb
  have hk' : (e.kind == 1) = false := by simpa using hk
  by_cases h3 : who < 0
  · have HQ : Hid (mayE J ⟨2, who, index, e⟩ = 4) := Lib.hid (by rw [HK.out, if_neg HNE.out, if_pos (.inl h3)])
    clear HK
    have fM := HM.out.fa
    go_wp2_with (first
      | ((with_reducible refine at_list ?_); first
        | ((with_reducible refine at_load 49 _ rfl ?_); refine ldW 49 _ rfl rfl rfl HM.out Tryd.underlying49 rfl infoRJ ?_)
        | ((first
          | ((with_reducible refine at_store 49 _ _ rfl ?_); refine stW 49 _ _ rfl rfl rfl rfl HM.out infoRJ ?_; intro w9 M)
          | ((with_reducible refine at_box 49 _ rfl ?_); refine boW 49 _ rfl rfl rfl HM.out ?_; intro w9 n9 M)
          | ((with_reducible refine at_alloc 49 rfl ?_); refine alW 49 rfl rfl (zeroRJ _) HM.out ?_; intro w9 n9 M)); replace HM := Lib.hid M; clear M; clear fM; have fM := HM.out.fa)))
    all_goals clear fM
    go_ret
    refine ⟨?_, ?_⟩
    rotate_left
    · apply Mem.extTo
      exact HM.out.to
    rw [HQ.out]
    rfl
  by_cases h4 : J.n ≤ who
  · have HQ : Hid (mayE J ⟨2, who, index, e⟩ = 4) := Lib.hid (by rw [HK.out, if_neg HNE.out, if_pos (.inr h4)])
    clear HK
    have fM := HM.out.fa
    go_wp2_with (first
      | ((with_reducible refine at_list ?_); first
        | ((with_reducible refine at_load 49 _ rfl ?_); refine ldW 49 _ rfl rfl rfl HM.out Tryd.underlying49 rfl infoRJ ?_)
        | ((first
          | ((with_reducible refine at_store 49 _ _ rfl ?_); refine stW 49 _ _ rfl rfl rfl rfl HM.out infoRJ ?_; intro w9 M)
          | ((with_reducible refine at_box 49 _ rfl ?_); refine boW 49 _ rfl rfl rfl HM.out ?_; intro w9 n9 M)
          | ((with_reducible refine at_alloc 49 rfl ?_); refine alW 49 rfl rfl (zeroRJ _) HM.out ?_; intro w9 n9 M)); replace HM := Lib.hid M; clear M; clear fM; have fM := HM.out.fa)))
    all_goals clear fM
    go_ret
    refine ⟨?_, ?_⟩
    rotate_left
    · apply Mem.extTo
      exact HM.out.to
    rw [HQ.out]
    rfl
  · have HQ : Hid (mayE J ⟨2, who, index, e⟩ = 0) := Lib.hid (by rw [HK.out, if_neg HNE.out, if_neg (fun h => by rcases h with h | h; exact h3 h; exact h4 h)])
    clear HK
    have fM := HM.out.fa
    go_wp2_with (first
      | ((with_reducible refine at_list ?_); first
        | ((with_reducible refine at_load 49 _ rfl ?_); refine ldW 49 _ rfl rfl rfl HM.out Tryd.underlying49 rfl infoRJ ?_)
        | ((first
          | ((with_reducible refine at_store 49 _ _ rfl ?_); refine stW 49 _ _ rfl rfl rfl rfl HM.out infoRJ ?_; intro w9 M)
          | ((with_reducible refine at_box 49 _ rfl ?_); refine boW 49 _ rfl rfl rfl HM.out ?_; intro w9 n9 M)
          | ((with_reducible refine at_alloc 49 rfl ?_); refine alW 49 rfl rfl (zeroRJ _) HM.out ?_; intro w9 n9 M)); replace HM := Lib.hid M; clear M; clear fM; have fM := HM.out.fa)))
    all_goals clear fM
    go_ret
    refine ⟨?_, ?_⟩
    rotate_left
    · apply Mem.extTo
      exact HM.out.to
    rw [HQ.out]
    rfl
theorem rmay_3 {A : Nat → Prop} (w : World) (J : JA) (cs : List Value) (who index : Int) (e : En) (h : RefAt w A J cs) :
    Calls Tryd.prog 23 #[.agg cs.toArray, (⟨3, who, index, e⟩ : Sn).v] w fun r w' => r = .returned (.int .i64 (mayE J ⟨3, who, index, e⟩)) ∧ Ext w w' := by
  obtain ⟨al, cl, ap, cp, hlen, hone, c0, c1, -, -, -, -, -, -, -, -⟩ := h.open
  have HLEN := Lib.hid hlen
  have HONE := Lib.hid hone
  have HWD : Wd _ _ := ⟨HLEN.out, HONE.out⟩
  have HM := Lib.hid (Mem.start0 w)
  clear h hlen hone
  unfold Sn.v
  dsimp only
  have HK : Hid (mayE J ⟨3, who, index, e⟩ = if index < 0 then 2 else if who < 0 ∨ J.n ≤ who then 4 else 0) := Lib.hid (by simp [mayE, kindF])
  by_cases hi : index < 0
  · have HQ : Hid (mayE J ⟨3, who, index, e⟩ = 2) := Lib.hid (by rw [HK.out, if_pos hi])
    clear HK
    go_enter Tryd.func23, Tryd.ntmps23
    have fM := HM.out.fa
    go_wp2_with (first
      | ((with_reducible refine at_list ?_); first
        | ((with_reducible refine at_load 49 _ rfl ?_); refine ldW 49 _ rfl rfl rfl HM.out Tryd.underlying49 rfl infoRJ ?_)
        | ((first
          | ((with_reducible refine at_store 49 _ _ rfl ?_); refine stW 49 _ _ rfl rfl rfl rfl HM.out infoRJ ?_; intro w9 M)
          | ((with_reducible refine at_box 49 _ rfl ?_); refine boW 49 _ rfl rfl rfl HM.out ?_; intro w9 n9 M)
          | ((with_reducible refine at_alloc 49 rfl ?_); refine alW 49 rfl rfl (zeroRJ _) HM.out ?_; intro w9 n9 M)); replace HM := Lib.hid M; clear M; clear fM; have fM := HM.out.fa)))
    all_goals clear fM
    go_ret
    refine ⟨?_, ?_⟩
    rotate_left
    · apply Mem.extTo
      exact HM.out.to
    rw [HQ.out]
    rfl
  have HI := Lib.hid hi
  by_cases h3 : who < 0
  · have HQ : Hid (mayE J ⟨3, who, index, e⟩ = 4) := Lib.hid (by rw [HK.out, if_neg hi, if_pos (.inl h3)])
    clear HK
    go_enter Tryd.func23, Tryd.ntmps23
    have fM := HM.out.fa
    go_wp2_with (first
      | ((with_reducible refine at_list ?_); first
        | ((with_reducible refine at_load 49 _ rfl ?_); refine ldW 49 _ rfl rfl rfl HM.out Tryd.underlying49 rfl infoRJ ?_)
        | ((first
          | ((with_reducible refine at_store 49 _ _ rfl ?_); refine stW 49 _ _ rfl rfl rfl rfl HM.out infoRJ ?_; intro w9 M)
          | ((with_reducible refine at_box 49 _ rfl ?_); refine boW 49 _ rfl rfl rfl HM.out ?_; intro w9 n9 M)
          | ((with_reducible refine at_alloc 49 rfl ?_); refine alW 49 rfl rfl (zeroRJ _) HM.out ?_; intro w9 n9 M)); replace HM := Lib.hid M; clear M; clear fM; have fM := HM.out.fa)))
    all_goals clear fM
    go_ret
    refine ⟨?_, ?_⟩
    rotate_left
    · apply Mem.extTo
      exact HM.out.to
    rw [HQ.out]
    rfl
  by_cases h4 : J.n ≤ who
  · have HQ : Hid (mayE J ⟨3, who, index, e⟩ = 4) := Lib.hid (by rw [HK.out, if_neg hi, if_pos (.inr h4)])
    clear HK
    go_enter Tryd.func23, Tryd.ntmps23
    have fM := HM.out.fa
    go_wp2_with (first
      | ((with_reducible refine at_list ?_); first
        | ((with_reducible refine at_load 49 _ rfl ?_); refine ldW 49 _ rfl rfl rfl HM.out Tryd.underlying49 rfl infoRJ ?_)
        | ((first
          | ((with_reducible refine at_store 49 _ _ rfl ?_); refine stW 49 _ _ rfl rfl rfl rfl HM.out infoRJ ?_; intro w9 M)
          | ((with_reducible refine at_box 49 _ rfl ?_); refine boW 49 _ rfl rfl rfl HM.out ?_; intro w9 n9 M)
          | ((with_reducible refine at_alloc 49 rfl ?_); refine alW 49 rfl rfl (zeroRJ _) HM.out ?_; intro w9 n9 M)); replace HM := Lib.hid M; clear M; clear fM; have fM := HM.out.fa)))
    all_goals clear fM
    go_ret
    refine ⟨?_, ?_⟩
    rotate_left
    · apply Mem.extTo
      exact HM.out.to
    rw [HQ.out]
    rfl
  · have HQ : Hid (mayE J ⟨3, who, index, e⟩ = 0) := Lib.hid (by rw [HK.out, if_neg hi, if_neg (fun h => by rcases h with h | h; exact h3 h; exact h4 h)])
    clear HK
    go_enter Tryd.func23, Tryd.ntmps23
    have fM := HM.out.fa
    go_wp2_with (first
      | ((with_reducible refine at_list ?_); first
        | ((with_reducible refine at_load 49 _ rfl ?_); refine ldW 49 _ rfl rfl rfl HM.out Tryd.underlying49 rfl infoRJ ?_)
        | ((first
          | ((with_reducible refine at_store 49 _ _ rfl ?_); refine stW 49 _ _ rfl rfl rfl rfl HM.out infoRJ ?_; intro w9 M)
          | ((with_reducible refine at_box 49 _ rfl ?_); refine boW 49 _ rfl rfl rfl HM.out ?_; intro w9 n9 M)
          | ((with_reducible refine at_alloc 49 rfl ?_); refine alW 49 rfl rfl (zeroRJ _) HM.out ?_; intro w9 n9 M)); replace HM := Lib.hid M; clear M; clear fM; have fM := HM.out.fa)))
    all_goals clear fM
    go_ret
    refine ⟨?_, ?_⟩
    rotate_left
    · apply Mem.extTo
      exact HM.out.to
    rw [HQ.out]
    rfl
theorem rmay_4 {A : Nat → Prop} (w : World) (J : JA) (cs : List Value) (who index : Int) (e : En) (h : RefAt w A J cs) :
    Calls Tryd.prog 23 #[.agg cs.toArray, (⟨4, who, index, e⟩ : Sn).v] w fun r w' => r = .returned (.int .i64 (mayE J ⟨4, who, index, e⟩)) ∧ Ext w w' := by
  obtain ⟨al, cl, ap, cp, hlen, hone, c0, c1, -, -, -, -, -, -, -, -⟩ := h.open
  have HLEN := Lib.hid hlen
  have HONE := Lib.hid hone
  have HWD : Wd _ _ := ⟨HLEN.out, HONE.out⟩
  have HM := Lib.hid (Mem.start0 w)
  clear h hlen hone
  unfold Sn.v
  dsimp only
  have HK : Hid (mayE J ⟨4, who, index, e⟩ = if index < 0 then 2 else if who < 0 ∨ J.m ≤ who then 4 else 0) := Lib.hid (by simp [mayE, kindF])
  by_cases hi : index < 0
  · have HQ : Hid (mayE J ⟨4, who, index, e⟩ = 2) := Lib.hid (by rw [HK.out, if_pos hi])
    clear HK
    go_enter Tryd.func23, Tryd.ntmps23
    have fM := HM.out.fa
    go_wp2_with (first
      | ((with_reducible refine at_list ?_); first
        | ((with_reducible refine at_load 49 _ rfl ?_); refine ldW 49 _ rfl rfl rfl HM.out Tryd.underlying49 rfl infoRJ ?_)
        | ((first
          | ((with_reducible refine at_store 49 _ _ rfl ?_); refine stW 49 _ _ rfl rfl rfl rfl HM.out infoRJ ?_; intro w9 M)
          | ((with_reducible refine at_box 49 _ rfl ?_); refine boW 49 _ rfl rfl rfl HM.out ?_; intro w9 n9 M)
          | ((with_reducible refine at_alloc 49 rfl ?_); refine alW 49 rfl rfl (zeroRJ _) HM.out ?_; intro w9 n9 M)); replace HM := Lib.hid M; clear M; clear fM; have fM := HM.out.fa)))
    all_goals clear fM
    go_ret
    refine ⟨?_, ?_⟩
    rotate_left
    · apply Mem.extTo
      exact HM.out.to
    rw [HQ.out]
    rfl
  have HI := Lib.hid hi
  by_cases h3 : who < 0
  · have HQ : Hid (mayE J ⟨4, who, index, e⟩ = 4) := Lib.hid (by rw [HK.out, if_neg hi, if_pos (.inl h3)])
    clear HK
    go_enter Tryd.func23, Tryd.ntmps23
    have fM := HM.out.fa
    go_wp2_with (first
      | ((with_reducible refine at_list ?_); first
        | ((with_reducible refine at_load 49 _ rfl ?_); refine ldW 49 _ rfl rfl rfl HM.out Tryd.underlying49 rfl infoRJ ?_)
        | ((first
          | ((with_reducible refine at_store 49 _ _ rfl ?_); refine stW 49 _ _ rfl rfl rfl rfl HM.out infoRJ ?_; intro w9 M)
          | ((with_reducible refine at_box 49 _ rfl ?_); refine boW 49 _ rfl rfl rfl HM.out ?_; intro w9 n9 M)
          | ((with_reducible refine at_alloc 49 rfl ?_); refine alW 49 rfl rfl (zeroRJ _) HM.out ?_; intro w9 n9 M)); replace HM := Lib.hid M; clear M; clear fM; have fM := HM.out.fa)))
    all_goals clear fM
    go_ret
    refine ⟨?_, ?_⟩
    rotate_left
    · apply Mem.extTo
      exact HM.out.to
    rw [HQ.out]
    rfl
  by_cases h4 : J.m ≤ who
  · have HQ : Hid (mayE J ⟨4, who, index, e⟩ = 4) := Lib.hid (by rw [HK.out, if_neg hi, if_pos (.inr h4)])
    clear HK
    go_enter Tryd.func23, Tryd.ntmps23
    have fM := HM.out.fa
    go_wp2_with (first
      | ((with_reducible refine at_list ?_); first
        | ((with_reducible refine at_load 49 _ rfl ?_); refine ldW 49 _ rfl rfl rfl HM.out Tryd.underlying49 rfl infoRJ ?_)
        | ((first
          | ((with_reducible refine at_store 49 _ _ rfl ?_); refine stW 49 _ _ rfl rfl rfl rfl HM.out infoRJ ?_; intro w9 M)
          | ((with_reducible refine at_box 49 _ rfl ?_); refine boW 49 _ rfl rfl rfl HM.out ?_; intro w9 n9 M)
          | ((with_reducible refine at_alloc 49 rfl ?_); refine alW 49 rfl rfl (zeroRJ _) HM.out ?_; intro w9 n9 M)); replace HM := Lib.hid M; clear M; clear fM; have fM := HM.out.fa)))
    all_goals clear fM
    go_ret
    refine ⟨?_, ?_⟩
    rotate_left
    · apply Mem.extTo
      exact HM.out.to
    rw [HQ.out]
    rfl
  · have HQ : Hid (mayE J ⟨4, who, index, e⟩ = 0) := Lib.hid (by rw [HK.out, if_neg hi, if_neg (fun h => by rcases h with h | h; exact h3 h; exact h4 h)])
    clear HK
    go_enter Tryd.func23, Tryd.ntmps23
    have fM := HM.out.fa
    go_wp2_with (first
      | ((with_reducible refine at_list ?_); first
        | ((with_reducible refine at_load 49 _ rfl ?_); refine ldW 49 _ rfl rfl rfl HM.out Tryd.underlying49 rfl infoRJ ?_)
        | ((first
          | ((with_reducible refine at_store 49 _ _ rfl ?_); refine stW 49 _ _ rfl rfl rfl rfl HM.out infoRJ ?_; intro w9 M)
          | ((with_reducible refine at_box 49 _ rfl ?_); refine boW 49 _ rfl rfl rfl HM.out ?_; intro w9 n9 M)
          | ((with_reducible refine at_alloc 49 rfl ?_); refine alW 49 rfl rfl (zeroRJ _) HM.out ?_; intro w9 n9 M)); replace HM := Lib.hid M; clear M; clear fM; have fM := HM.out.fa)))
    all_goals clear fM
    go_ret
    refine ⟨?_, ?_⟩
    rotate_left
    · apply Mem.extTo
      exact HM.out.to
    rw [HQ.out]
    rfl
theorem rmay_5 {A : Nat → Prop} (w : World) (J : JA) (cs : List Value) (who index : Int) (e : En) (h : RefAt w A J cs) (ht : e.text.length ≤ 500000) :
    Calls Tryd.prog 23 #[.agg cs.toArray, (⟨5, who, index, e⟩ : Sn).v] w fun r w' => r = .returned (.int .i64 (mayE J ⟨5, who, index, e⟩)) ∧ Ext w w' := by
  have HT := Lib.hid ht
  clear ht
  obtain ⟨al, cl, ap, cp, hlen, hone, c0, c1, -, -, -, -, -, -, -, -⟩ := h.open
  have HLEN := Lib.hid hlen
  have HONE := Lib.hid hone
  have HWD : Wd _ _ := ⟨HLEN.out, HONE.out⟩
  have HM := Lib.hid (Mem.start0 w)
  clear h hlen hone
  unfold Sn.v
  dsimp only
  have HK : Hid (mayE J ⟨5, who, index, e⟩ = if index < 0 ∨ (e.kind = 1 ∨ enB e = false) then 2 else if who < 0 ∨ J.m ≤ who then 4 else 0) := Lib.hid (by simp [mayE, kindF])
  by_cases hi : index < 0
  · have HQ : Hid (mayE J ⟨5, who, index, e⟩ = 2) := Lib.hid (by rw [HK.out, if_pos (.inl hi)])
    clear HK
    go_enter Tryd.func23, Tryd.ntmps23
    have fM := HM.out.fa
    go_wp2_with (first
      | ((with_reducible refine at_list ?_); first
        | ((with_reducible refine at_load 49 _ rfl ?_); refine ldW 49 _ rfl rfl rfl HM.out Tryd.underlying49 rfl infoRJ ?_)
        | ((first
          | ((with_reducible refine at_store 49 _ _ rfl ?_); refine stW 49 _ _ rfl rfl rfl rfl HM.out infoRJ ?_; intro w9 M)
          | ((with_reducible refine at_box 49 _ rfl ?_); refine boW 49 _ rfl rfl rfl HM.out ?_; intro w9 n9 M)
          | ((with_reducible refine at_alloc 49 rfl ?_); refine alW 49 rfl rfl (zeroRJ _) HM.out ?_; intro w9 n9 M)); replace HM := Lib.hid M; clear M; clear fM; have fM := HM.out.fa)))
    all_goals clear fM
    go_ret
    refine ⟨?_, ?_⟩
    rotate_left
    · apply Mem.extTo
      exact HM.out.to
    rw [HQ.out]
    rfl
  have HEV := Lib.hid (show e.v = .agg #[.int .i64 e.kind, .int .i64 e.member, .int .i64 e.number, .string (bs e.text)] from rfl)
  have HI := Lib.hid hi
  go_enter Tryd.func23, Tryd.ntmps23
  have fM := HM.out.fa
  go_wp2_with (first
    | ((with_reducible refine at_list ?_); first
      | ((with_reducible refine at_load 49 _ rfl ?_); refine ldW 49 _ rfl rfl rfl HM.out Tryd.underlying49 rfl infoRJ ?_)
      | ((first
        | ((with_reducible refine at_store 49 _ _ rfl ?_); refine stW 49 _ _ rfl rfl rfl rfl HM.out infoRJ ?_; intro w9 M)
        | ((with_reducible refine at_box 49 _ rfl ?_); refine boW 49 _ rfl rfl rfl HM.out ?_; intro w9 n9 M)
        | ((with_reducible refine at_alloc 49 rfl ?_); refine alW 49 rfl rfl (zeroRJ _) HM.out ?_; intro w9 n9 M)); replace HM := Lib.hid M; clear M; clear fM; have fM := HM.out.fa)))
  all_goals clear fM
  refine nxt HM fun w0 M => ?_
  clear HM; have HM := M; clear M
  rw [← HEV.out]
  refine (entry14_any w0 e HT.out).mono ?_
  rintro r w1 ⟨rfl, hE⟩
  replace HM := Lib.hid (HM.out.ext hE)
  clear hE hi
  have hi : ¬ index < 0 := by have := HI.out; omega
  cases hb : enB e
  · have HQ : Hid (mayE J ⟨5, who, index, e⟩ = 2) := Lib.hid (by rw [HK.out, if_pos (.inr (.inr hb))])
    clear HK hb
    have fM := HM.out.fa
    go_wp2_with (first
      | ((with_reducible refine at_list ?_); first
        | ((with_reducible refine at_load 49 _ rfl ?_); refine ldW 49 _ rfl rfl rfl HM.out Tryd.underlying49 rfl infoRJ ?_)
        | ((first
          | ((with_reducible refine at_store 49 _ _ rfl ?_); refine stW 49 _ _ rfl rfl rfl rfl HM.out infoRJ ?_; intro w9 M)
          | ((with_reducible refine at_box 49 _ rfl ?_); refine boW 49 _ rfl rfl rfl HM.out ?_; intro w9 n9 M)
          | ((with_reducible refine at_alloc 49 rfl ?_); refine alW 49 rfl rfl (zeroRJ _) HM.out ?_; intro w9 n9 M)); replace HM := Lib.hid M; clear M; clear fM; have fM := HM.out.fa)))
    all_goals clear fM
    go_ret
    refine ⟨?_, ?_⟩
    rotate_left
    · apply Mem.extTo
      exact HM.out.to
    rw [HQ.out]
    rfl
  by_cases hk : e.kind = 1
  · have HQ : Hid (mayE J ⟨5, who, index, e⟩ = 2) := Lib.hid (by rw [HK.out, if_pos (.inr (.inl hk))])
    clear HK hb
    have fM := HM.out.fa
    go_wp2_with (first
      | ((with_reducible refine at_list ?_); first
        | ((with_reducible refine at_load 49 _ rfl ?_); refine ldW 49 _ rfl rfl rfl HM.out Tryd.underlying49 rfl infoRJ ?_)
        | ((first
          | ((with_reducible refine at_store 49 _ _ rfl ?_); refine stW 49 _ _ rfl rfl rfl rfl HM.out infoRJ ?_; intro w9 M)
          | ((with_reducible refine at_box 49 _ rfl ?_); refine boW 49 _ rfl rfl rfl HM.out ?_; intro w9 n9 M)
          | ((with_reducible refine at_alloc 49 rfl ?_); refine alW 49 rfl rfl (zeroRJ _) HM.out ?_; intro w9 n9 M)); replace HM := Lib.hid M; clear M; clear fM; have fM := HM.out.fa)))
    all_goals clear fM
    go_ret
    refine ⟨?_, ?_⟩
    rotate_left
    · apply Mem.extTo
      exact HM.out.to
    rw [HQ.out]
    rfl
  have HNE : Hid (¬ (index < 0 ∨ (e.kind = 1 ∨ enB e = false))) := Lib.hid (fun h => by
    rcases h with h | h | h
    · exact hi h
    · exact hk h
    · rw [hb] at h; cases h)
  clear hb
  have hk' : (e.kind == 1) = false := by simpa using hk
  by_cases h3 : who < 0
  · have HQ : Hid (mayE J ⟨5, who, index, e⟩ = 4) := Lib.hid (by rw [HK.out, if_neg HNE.out, if_pos (.inl h3)])
    clear HK
    have fM := HM.out.fa
    go_wp2_with (first
      | ((with_reducible refine at_list ?_); first
        | ((with_reducible refine at_load 49 _ rfl ?_); refine ldW 49 _ rfl rfl rfl HM.out Tryd.underlying49 rfl infoRJ ?_)
        | ((first
          | ((with_reducible refine at_store 49 _ _ rfl ?_); refine stW 49 _ _ rfl rfl rfl rfl HM.out infoRJ ?_; intro w9 M)
          | ((with_reducible refine at_box 49 _ rfl ?_); refine boW 49 _ rfl rfl rfl HM.out ?_; intro w9 n9 M)
          | ((with_reducible refine at_alloc 49 rfl ?_); refine alW 49 rfl rfl (zeroRJ _) HM.out ?_; intro w9 n9 M)); replace HM := Lib.hid M; clear M; clear fM; have fM := HM.out.fa)))
    all_goals clear fM
    go_ret
    refine ⟨?_, ?_⟩
    rotate_left
    · apply Mem.extTo
      exact HM.out.to
    rw [HQ.out]
    rfl
  by_cases h4 : J.m ≤ who
  · have HQ : Hid (mayE J ⟨5, who, index, e⟩ = 4) := Lib.hid (by rw [HK.out, if_neg HNE.out, if_pos (.inr h4)])
    clear HK
    have fM := HM.out.fa
    go_wp2_with (first
      | ((with_reducible refine at_list ?_); first
        | ((with_reducible refine at_load 49 _ rfl ?_); refine ldW 49 _ rfl rfl rfl HM.out Tryd.underlying49 rfl infoRJ ?_)
        | ((first
          | ((with_reducible refine at_store 49 _ _ rfl ?_); refine stW 49 _ _ rfl rfl rfl rfl HM.out infoRJ ?_; intro w9 M)
          | ((with_reducible refine at_box 49 _ rfl ?_); refine boW 49 _ rfl rfl rfl HM.out ?_; intro w9 n9 M)
          | ((with_reducible refine at_alloc 49 rfl ?_); refine alW 49 rfl rfl (zeroRJ _) HM.out ?_; intro w9 n9 M)); replace HM := Lib.hid M; clear M; clear fM; have fM := HM.out.fa)))
    all_goals clear fM
    go_ret
    refine ⟨?_, ?_⟩
    rotate_left
    · apply Mem.extTo
      exact HM.out.to
    rw [HQ.out]
    rfl
  · have HQ : Hid (mayE J ⟨5, who, index, e⟩ = 0) := Lib.hid (by rw [HK.out, if_neg HNE.out, if_neg (fun h => by rcases h with h | h; exact h3 h; exact h4 h)])
    clear HK
    have fM := HM.out.fa
    go_wp2_with (first
      | ((with_reducible refine at_list ?_); first
        | ((with_reducible refine at_load 49 _ rfl ?_); refine ldW 49 _ rfl rfl rfl HM.out Tryd.underlying49 rfl infoRJ ?_)
        | ((first
          | ((with_reducible refine at_store 49 _ _ rfl ?_); refine stW 49 _ _ rfl rfl rfl rfl HM.out infoRJ ?_; intro w9 M)
          | ((with_reducible refine at_box 49 _ rfl ?_); refine boW 49 _ rfl rfl rfl HM.out ?_; intro w9 n9 M)
          | ((with_reducible refine at_alloc 49 rfl ?_); refine alW 49 rfl rfl (zeroRJ _) HM.out ?_; intro w9 n9 M)); replace HM := Lib.hid M; clear M; clear fM; have fM := HM.out.fa)))
    all_goals clear fM
    go_ret
    refine ⟨?_, ?_⟩
    rotate_left
    · apply Mem.extTo
      exact HM.out.to
    rw [HQ.out]
    rfl
theorem rmay_6 {A : Nat → Prop} (w : World) (J : JA) (cs : List Value) (who index : Int) (e : En) (h : RefAt w A J cs) :
    Calls Tryd.prog 23 #[.agg cs.toArray, (⟨6, who, index, e⟩ : Sn).v] w fun r w' => r = .returned (.int .i64 (mayE J ⟨6, who, index, e⟩)) ∧ Ext w w' := by
  obtain ⟨al, cl, ap, cp, hlen, hone, c0, c1, -, -, -, -, -, -, -, -⟩ := h.open
  have HLEN := Lib.hid hlen
  have HONE := Lib.hid hone
  have HWD : Wd _ _ := ⟨HLEN.out, HONE.out⟩
  have HM := Lib.hid (Mem.start0 w)
  clear h hlen hone
  unfold Sn.v
  dsimp only
  have HK : Hid (mayE J ⟨6, who, index, e⟩ = if index < -1 then 2 else if who < 0 ∨ J.m ≤ who then 4 else 0) := Lib.hid (by simp [mayE, kindF])
  by_cases hi : index < -1
  · have HQ : Hid (mayE J ⟨6, who, index, e⟩ = 2) := Lib.hid (by rw [HK.out, if_pos hi])
    clear HK
    go_enter Tryd.func23, Tryd.ntmps23
    have fM := HM.out.fa
    go_wp2_with (first
      | ((with_reducible refine at_list ?_); first
        | ((with_reducible refine at_load 49 _ rfl ?_); refine ldW 49 _ rfl rfl rfl HM.out Tryd.underlying49 rfl infoRJ ?_)
        | ((first
          | ((with_reducible refine at_store 49 _ _ rfl ?_); refine stW 49 _ _ rfl rfl rfl rfl HM.out infoRJ ?_; intro w9 M)
          | ((with_reducible refine at_box 49 _ rfl ?_); refine boW 49 _ rfl rfl rfl HM.out ?_; intro w9 n9 M)
          | ((with_reducible refine at_alloc 49 rfl ?_); refine alW 49 rfl rfl (zeroRJ _) HM.out ?_; intro w9 n9 M)); replace HM := Lib.hid M; clear M; clear fM; have fM := HM.out.fa)))
    all_goals clear fM
    go_ret
    refine ⟨?_, ?_⟩
    rotate_left
    · apply Mem.extTo
      exact HM.out.to
    rw [HQ.out]
    rfl
  have HI := Lib.hid hi
  by_cases h3 : who < 0
  · have HQ : Hid (mayE J ⟨6, who, index, e⟩ = 4) := Lib.hid (by rw [HK.out, if_neg hi, if_pos (.inl h3)])
    clear HK
    go_enter Tryd.func23, Tryd.ntmps23
    have fM := HM.out.fa
    go_wp2_with (first
      | ((with_reducible refine at_list ?_); first
        | ((with_reducible refine at_load 49 _ rfl ?_); refine ldW 49 _ rfl rfl rfl HM.out Tryd.underlying49 rfl infoRJ ?_)
        | ((first
          | ((with_reducible refine at_store 49 _ _ rfl ?_); refine stW 49 _ _ rfl rfl rfl rfl HM.out infoRJ ?_; intro w9 M)
          | ((with_reducible refine at_box 49 _ rfl ?_); refine boW 49 _ rfl rfl rfl HM.out ?_; intro w9 n9 M)
          | ((with_reducible refine at_alloc 49 rfl ?_); refine alW 49 rfl rfl (zeroRJ _) HM.out ?_; intro w9 n9 M)); replace HM := Lib.hid M; clear M; clear fM; have fM := HM.out.fa)))
    all_goals clear fM
    go_ret
    refine ⟨?_, ?_⟩
    rotate_left
    · apply Mem.extTo
      exact HM.out.to
    rw [HQ.out]
    rfl
  by_cases h4 : J.m ≤ who
  · have HQ : Hid (mayE J ⟨6, who, index, e⟩ = 4) := Lib.hid (by rw [HK.out, if_neg hi, if_pos (.inr h4)])
    clear HK
    go_enter Tryd.func23, Tryd.ntmps23
    have fM := HM.out.fa
    go_wp2_with (first
      | ((with_reducible refine at_list ?_); first
        | ((with_reducible refine at_load 49 _ rfl ?_); refine ldW 49 _ rfl rfl rfl HM.out Tryd.underlying49 rfl infoRJ ?_)
        | ((first
          | ((with_reducible refine at_store 49 _ _ rfl ?_); refine stW 49 _ _ rfl rfl rfl rfl HM.out infoRJ ?_; intro w9 M)
          | ((with_reducible refine at_box 49 _ rfl ?_); refine boW 49 _ rfl rfl rfl HM.out ?_; intro w9 n9 M)
          | ((with_reducible refine at_alloc 49 rfl ?_); refine alW 49 rfl rfl (zeroRJ _) HM.out ?_; intro w9 n9 M)); replace HM := Lib.hid M; clear M; clear fM; have fM := HM.out.fa)))
    all_goals clear fM
    go_ret
    refine ⟨?_, ?_⟩
    rotate_left
    · apply Mem.extTo
      exact HM.out.to
    rw [HQ.out]
    rfl
  · have HQ : Hid (mayE J ⟨6, who, index, e⟩ = 0) := Lib.hid (by rw [HK.out, if_neg hi, if_neg (fun h => by rcases h with h | h; exact h3 h; exact h4 h)])
    clear HK
    go_enter Tryd.func23, Tryd.ntmps23
    have fM := HM.out.fa
    go_wp2_with (first
      | ((with_reducible refine at_list ?_); first
        | ((with_reducible refine at_load 49 _ rfl ?_); refine ldW 49 _ rfl rfl rfl HM.out Tryd.underlying49 rfl infoRJ ?_)
        | ((first
          | ((with_reducible refine at_store 49 _ _ rfl ?_); refine stW 49 _ _ rfl rfl rfl rfl HM.out infoRJ ?_; intro w9 M)
          | ((with_reducible refine at_box 49 _ rfl ?_); refine boW 49 _ rfl rfl rfl HM.out ?_; intro w9 n9 M)
          | ((with_reducible refine at_alloc 49 rfl ?_); refine alW 49 rfl rfl (zeroRJ _) HM.out ?_; intro w9 n9 M)); replace HM := Lib.hid M; clear M; clear fM; have fM := HM.out.fa)))
    all_goals clear fM
    go_ret
    refine ⟨?_, ?_⟩
    rotate_left
    · apply Mem.extTo
      exact HM.out.to
    rw [HQ.out]
    rfl
theorem rmay_any {A : Nat → Prop} (w : World) (J : JA) (cs : List Value) (x : Sn) (h : RefAt w A J cs) (ht : x.e.text.length ≤ 500000) :
    Calls Tryd.prog 23 #[.agg cs.toArray, x.v] w fun r w' => r = .returned (.int .i64 (mayE J x)) ∧ Ext w w' := by
  obtain ⟨kind, who, index, e⟩ := x
  by_cases hk : 1 ≤ kind ∧ kind ≤ 6
  case neg =>
    have HQ : Hid (mayE J ⟨kind, who, index, e⟩ = 2) := Lib.hid (mayE_none hk)
    obtain ⟨al, cl, ap, cp, hlen, hone, c0, c1, -, -, -, -, -, -, -, -⟩ := h.open
    have HLEN := Lib.hid hlen
    have HONE := Lib.hid hone
    have HWD : Wd _ _ := ⟨HLEN.out, HONE.out⟩
    have HM := Lib.hid (Mem.start0 w)
    clear h hlen hone
    unfold Sn.v
    dsimp only
    by_cases k1 : kind < 1
    · clear hk
      go_enter Tryd.func23, Tryd.ntmps23
      have fM := HM.out.fa
      go_wp2_with (first
        | ((with_reducible refine at_list ?_); first
          | ((with_reducible refine at_load 49 _ rfl ?_); refine ldW 49 _ rfl rfl rfl HM.out Tryd.underlying49 rfl infoRJ ?_)
          | ((first
            | ((with_reducible refine at_store 49 _ _ rfl ?_); refine stW 49 _ _ rfl rfl rfl rfl HM.out infoRJ ?_; intro w9 M)
            | ((with_reducible refine at_box 49 _ rfl ?_); refine boW 49 _ rfl rfl rfl HM.out ?_; intro w9 n9 M)
            | ((with_reducible refine at_alloc 49 rfl ?_); refine alW 49 rfl rfl (zeroRJ _) HM.out ?_; intro w9 n9 M)); replace HM := Lib.hid M; clear M; clear fM; have fM := HM.out.fa)))
      all_goals clear fM
      go_ret
      refine ⟨?_, ?_⟩
      rotate_left
      · apply Mem.extTo
        exact HM.out.to
      rw [HQ.out]
      rfl
    · have k2 : 6 < kind := by omega
      clear hk
      go_enter Tryd.func23, Tryd.ntmps23
      have fM := HM.out.fa
      go_wp2_with (first
        | ((with_reducible refine at_list ?_); first
          | ((with_reducible refine at_load 49 _ rfl ?_); refine ldW 49 _ rfl rfl rfl HM.out Tryd.underlying49 rfl infoRJ ?_)
          | ((first
            | ((with_reducible refine at_store 49 _ _ rfl ?_); refine stW 49 _ _ rfl rfl rfl rfl HM.out infoRJ ?_; intro w9 M)
            | ((with_reducible refine at_box 49 _ rfl ?_); refine boW 49 _ rfl rfl rfl HM.out ?_; intro w9 n9 M)
            | ((with_reducible refine at_alloc 49 rfl ?_); refine alW 49 rfl rfl (zeroRJ _) HM.out ?_; intro w9 n9 M)); replace HM := Lib.hid M; clear M; clear fM; have fM := HM.out.fa)))
      all_goals clear fM
      go_ret
      refine ⟨?_, ?_⟩
      rotate_left
      · apply Mem.extTo
        exact HM.out.to
      rw [HQ.out]
      rfl
  obtain rfl | rfl | rfl | rfl | rfl | rfl : kind = 1 ∨ kind = 2 ∨ kind = 3 ∨ kind = 4 ∨ kind = 5 ∨ kind = 6 := by omega
  · exact rmay_1 w J cs who index e h ht
  · exact rmay_2 w J cs who index e h ht
  · exact rmay_3 w J cs who index e h
  · exact rmay_4 w J cs who index e h
  · exact rmay_5 w J cs who index e h ht
  · exact rmay_6 w J cs who index e h
end Go.Proofs.YthhdgjofagdjeaaDoor
end
