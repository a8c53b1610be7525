/- Texts VI, WA, WC, YA, ZA, ZB, one behind the other. Conditions: as each says. -/
import Derived.Test.YthhdgjofagdjeaaDoorPkL
import Derived.BigFrameIn
import Derived.BigGuardIn
section
/- The document's judge sees a thing, of whatever kind; New. Condition: the judge reads as 'RefAt' says, and is such as came by things seen. -/
set_option linter.unusedVariables false
set_option linter.unusedSimpArgs false
set_option maxHeartbeats 4000000
set_option maxRecDepth 100000
namespace Go.Proofs.YthhdgjofagdjeaaDoor
open Go.RowKit Go.Shelf
theorem RefAt.setPut {w : World} {A : Nat → Prop} {J : JA} {cs : List Value} (h : RefAt w A J cs) (v : Value) (l : List En) (hv : RowAt enE w 0 v l) (hA : ∀ k, Own v k → A k) : RefAt w A { J with put := l } (cs.set 29 v) :=
  let ⟨vl, vp, h1, h2, h3, h4, h5, h6, h7⟩ := h
  ⟨vl, v, by rw [h1, J.rset_put vl vp h6 h7 v l], h2, h3, hv, hA, h6, h7⟩
theorem rsee_1 {A : Nat → Prop} (w : World) (J : JA) (cs : List Value) (p : Int) (index : Int) (e : En) (h : RefAt w A J cs) (hA : ∀ k, A k → k < w.heap.size) (hok : OkR J) (hpl : J.put.length ≤ 4096) (ht : e.text.length ≤ 500000) (hm : mayE J ⟨1, p, index, e⟩ = 0) : SeeC w A J cs ⟨1, p, index, e⟩ := by
  have hlt0 : ∀ k, A k → k < w.heap.size := hA
  obtain ⟨al, cl, ap, cp, hlen, hone, -, -, -, c3, cT, -, c29, c30, hvl, hvp⟩ := h.open
  have HR := Lib.hid h
  have HV := Lib.hid hvp
  have HLEN := Lib.hid hlen
  have HONE := Lib.hid hone
  have HWD : Wd _ _ := ⟨HLEN.out, HONE.out⟩
  have HOK := Lib.hid hok
  have HTX := Lib.hid ht
  have HLT := Lib.hid hlt0
  have HM := Lib.hid (Mem.start0 w)
  have HPL := Lib.hid hpl
  clear hpl
  have hkr : kindsR J ⟨1, p, index, e⟩ = putR J p e := by simp [kindsR]
  by_cases h1 : e.member = p
  case neg =>
    have hq : putR J p e = (J, 406) := by unfold putR; rw [if_neg h1]
    have HQ := Lib.hid (seeR_bad hm (by rw [hkr, hq]; exact (by decide : (406 : Int) ≠ 0)))
    rw [hkr, hq] at HQ
    have h1' : (e.member != p) = true := by simpa using h1
    clear h1 hkr hq c29
    unfold SeeC
    have HXV := Lib.hid (show (⟨1, p, index, e⟩ : Sn).v = .agg #[.int .i64 1, .int .i64 p, .int .i64 index, .int .i64 e.kind, .int .i64 e.member, .int .i64 e.number, .string (bs e.text)] from rfl)
    have HEV := Lib.hid (show e.v = .agg #[.int .i64 e.kind, .int .i64 e.member, .int .i64 e.number, .string (bs e.text)] from rfl)
    rw [HXV.out]
    have HMM := Lib.hid hm
    clear h hA hok ht hlt0 hlen hone cT hvl hvp hm
    go_enter Tryd.func13, Tryd.ntmps13
    have fM := HM.out.fa
    go_wp2_with (first
      | ((with_reducible refine at_list ?_); first
        | ((with_reducible refine at_load 49 _ rfl ?_); refine ldW 49 _ rfl rfl rfl HM.out Tryd.underlying49 rfl infoRJ ?_)
        | ((first
          | ((with_reducible refine at_store 49 _ _ rfl ?_); refine stW 49 _ _ rfl rfl rfl rfl HM.out infoRJ ?_; intro w9 M)
          | ((with_reducible refine at_box 49 _ rfl ?_); refine boW 49 _ rfl rfl rfl HM.out ?_; intro w9 n9 M)
          | ((with_reducible refine at_alloc 49 rfl ?_); refine alW 49 rfl rfl (zeroRJ _) HM.out ?_; intro w9 n9 M)); replace HM := Lib.hid M; clear M; clear fM; have fM := HM.out.fa)))
    all_goals clear fM
    refine nxt HM fun w1 M => ?_
    clear HM; have HM := M; clear M
    rw [← HXV.out]
    refine (rmay_any w1 J cs ⟨1, p, index, e⟩ (HR.out.ext HM.out.extTo) HTX.out).mono ?_
    rintro r w2 ⟨rfl, hE⟩
    rw [HMM.out]
    replace HM := Lib.hid (HM.out.ext hE)
    clear hE
    have fM := HM.out.fa
    go_wp2_with (first
      | ((with_reducible refine at_list ?_); first
        | ((with_reducible refine at_load 49 _ rfl ?_); refine ldW 49 _ rfl rfl rfl HM.out Tryd.underlying49 rfl infoRJ ?_)
        | ((first
          | ((with_reducible refine at_store 49 _ _ rfl ?_); refine stW 49 _ _ rfl rfl rfl rfl HM.out infoRJ ?_; intro w9 M)
          | ((with_reducible refine at_box 49 _ rfl ?_); refine boW 49 _ rfl rfl rfl HM.out ?_; intro w9 n9 M)
          | ((with_reducible refine at_alloc 49 rfl ?_); refine alW 49 rfl rfl (zeroRJ _) HM.out ?_; intro w9 n9 M)); replace HM := Lib.hid M; clear M; clear fM; have fM := HM.out.fa)))
    all_goals clear fM
    refine nxt HM fun w5 M => ?_
    clear HM; have HM := M; clear M
    refine bodyPost_ret (rtW 49 Tryd.results13 _ rfl HM.out Tryd.underlying49 rfl infoRJ) rfl ?_
    rw [HQ.out]
    have HE5 := HM.out.extTo
    exact ⟨_, rfl, ((HR.out.setBroken (wrap64 (J.broken + 1))).ext HE5).mono (fun k hk => .inl hk), HE5⟩
  have hq : putR J p e = (J.putIn e, 0) := by unfold putR; rw [if_pos h1]
  have HQ := Lib.hid (seeR_ok hm (by rw [hkr, hq]))
  rw [hkr, hq] at HQ
  have h1' : (e.member != p) = false := by simpa using h1
  clear h1 hkr hq
  unfold SeeC
  have HXV := Lib.hid (show (⟨1, p, index, e⟩ : Sn).v = .agg #[.int .i64 1, .int .i64 p, .int .i64 index, .int .i64 e.kind, .int .i64 e.member, .int .i64 e.number, .string (bs e.text)] from rfl)
  have HEV := Lib.hid (show e.v = .agg #[.int .i64 e.kind, .int .i64 e.member, .int .i64 e.number, .string (bs e.text)] from rfl)
  rw [HXV.out]
  have HMM := Lib.hid hm
  clear h hA hok ht hlt0 hlen hone cT hvl hvp hm
  go_enter Tryd.func13, Tryd.ntmps13
  have fM := HM.out.fa
  go_wp2_with (first
    | ((with_reducible refine at_list ?_); first
      | ((with_reducible refine at_load 49 _ rfl ?_); refine ldW 49 _ rfl rfl rfl HM.out Tryd.underlying49 rfl infoRJ ?_)
      | ((first
        | ((with_reducible refine at_store 49 _ _ rfl ?_); refine stW 49 _ _ rfl rfl rfl rfl HM.out infoRJ ?_; intro w9 M)
        | ((with_reducible refine at_box 49 _ rfl ?_); refine boW 49 _ rfl rfl rfl HM.out ?_; intro w9 n9 M)
        | ((with_reducible refine at_alloc 49 rfl ?_); refine alW 49 rfl rfl (zeroRJ _) HM.out ?_; intro w9 n9 M)); replace HM := Lib.hid M; clear M; clear fM; have fM := HM.out.fa)))
  all_goals clear fM
  refine nxt HM fun w1 M => ?_
  clear HM; have HM := M; clear M
  rw [← HXV.out]
  refine (rmay_any w1 J cs ⟨1, p, index, e⟩ (HR.out.ext HM.out.extTo) HTX.out).mono ?_
  rintro r w2 ⟨rfl, hE⟩
  rw [HMM.out]
  replace HM := Lib.hid (HM.out.ext hE)
  clear hE
  have fM := HM.out.fa
  go_wp2_with (first
    | ((with_reducible refine at_list ?_); first
      | ((with_reducible refine at_load 49 _ rfl ?_); refine ldW 49 _ rfl rfl rfl HM.out Tryd.underlying49 rfl infoRJ ?_)
      | ((first
        | ((with_reducible refine at_store 49 _ _ rfl ?_); refine stW 49 _ _ rfl rfl rfl rfl HM.out infoRJ ?_; intro w9 M)
        | ((with_reducible refine at_box 49 _ rfl ?_); refine boW 49 _ rfl rfl rfl HM.out ?_; intro w9 n9 M)
        | ((with_reducible refine at_alloc 49 rfl ?_); refine alW 49 rfl rfl (zeroRJ _) HM.out ?_; intro w9 n9 M)); replace HM := Lib.hid M; clear M; clear fM; have fM := HM.out.fa)))
  all_goals clear fM
  refine nxt HM fun w3 M => ?_
  clear HM; have HM := M; clear M
  rw [← HEV.out]
  refine (rput_any w3 J cs e (HR.out.ext HM.out.extTo) HOK.out.puts).mono ?_
  rintro r w4 ⟨rfl, hE⟩
  replace HM := Lib.hid (HM.out.ext hE)
  clear hE
  by_cases h2 : e ∈ J.put
  · have hq : J.putIn e = J := by unfold JA.putIn; rw [if_pos h2]
    rw [hq] at HQ
    rw [decide_eq_true h2]
    clear hq h2 c29
    have fM := HM.out.fa
    go_wp2_with (first
      | ((with_reducible refine at_list ?_); first
        | ((with_reducible refine at_load 49 _ rfl ?_); refine ldW 49 _ rfl rfl rfl HM.out Tryd.underlying49 rfl infoRJ ?_)
        | ((first
          | ((with_reducible refine at_store 49 _ _ rfl ?_); refine stW 49 _ _ rfl rfl rfl rfl HM.out infoRJ ?_; intro w9 M)
          | ((with_reducible refine at_box 49 _ rfl ?_); refine boW 49 _ rfl rfl rfl HM.out ?_; intro w9 n9 M)
          | ((with_reducible refine at_alloc 49 rfl ?_); refine alW 49 rfl rfl (zeroRJ _) HM.out ?_; intro w9 n9 M)); replace HM := Lib.hid M; clear M; clear fM; have fM := HM.out.fa)))
    all_goals clear fM
    refine bodyPost_ret (rtW 49 Tryd.results13 _ rfl HM.out Tryd.underlying49 rfl infoRJ) rfl ?_
    rw [HQ.out]
    refine ⟨_, rfl, ((HR.out).ext ?_).mono (fun k hk => .inl hk), ?_⟩ <;> (apply Mem.extTo; exact HM.out.to)
  have hq : J.putIn e = { J with put := J.put ++ [e] } := by unfold JA.putIn; rw [if_neg h2]
  rw [hq] at HQ
  rw [decide_eq_false h2]
  clear hq h2
  have fM := HM.out.fa
  go_wp2_with (first
    | ((with_reducible refine at_list ?_); first
      | ((with_reducible refine at_load 49 _ rfl ?_); refine ldW 49 _ rfl rfl rfl HM.out Tryd.underlying49 rfl infoRJ ?_)
      | ((first
        | ((with_reducible refine at_store 49 _ _ rfl ?_); refine stW 49 _ _ rfl rfl rfl rfl HM.out infoRJ ?_; intro w9 M)
        | ((with_reducible refine at_box 49 _ rfl ?_); refine boW 49 _ rfl rfl rfl HM.out ?_; intro w9 n9 M)
        | ((with_reducible refine at_alloc 49 rfl ?_); refine alW 49 rfl rfl (zeroRJ _) HM.out ?_; intro w9 n9 M)); replace HM := Lib.hid M; clear M; clear fM; have fM := HM.out.fa)))
  all_goals clear fM
  refine nxt HM fun w4 M => ?_
  clear HM; have HM := M; clear M
  have HE4 := Lib.hid HM.out.extTo
  have HV4 := Lib.hid (HV.out.ext HM.out.extTo)
  have fM := HM.out.fa
  have hE0 : Keeps NoB w4 w4.drew := (Keeps.refl _ _).drew
  refine wp_region_forks [2, 5] [0, 3, 6, 7, 8, 9] (ClsE w4) (by kernel_rfl) ?_
  refine any_seg (L := #[false, true, true, false, true, true, false, false, false, false]) [(0, 1), (1, 2), (0, 4), (1, 5)] 6 (by kernel_rfl) (fun _ _ _ d _ h => by cases d <;> exact h) (by kernel_rfl) (by kernel_rfl) rfl rfl (ClsE.of (by repeat (first | assumption | exact Keeps.refl _ _ | refine Keeps.alloc ?_ _ | refine Keeps.setOne ?_ _ _ | refine Keeps.setCell ?_ _ _ (.inl (by first | rfl | exact .inl rfl | exact .inr rfl | omega)) | refine Keeps.drew ?_))) ?_; simp only [planL, nL]
  refine pR (v := ?_) rfl (fun W => ?_) ?_; rotate_left; (go_simp <;> with_reducible rfl); simp only [nP]
  refine pL (v := ?_) rfl (fun W => ?_) ?_; rotate_left; (go_simp <;> with_reducible rfl); simp only [nP]
  refine pR (v := ?_) rfl (fun W => ?_) ?_; rotate_left; (go_simp <;> with_reducible rfl); simp only [nP]
  refine pL (v := ?_) rfl (fun W => ?_) ?_; rotate_left; (go_simp <;> with_reducible rfl); simp only [nP]
  refine plan_nil ?_
  refine any_fork 0 6 (by kernel_rfl) (by kernel_rfl) rfl rfl rfl rfl (fun K hK => ?_) (fun K hK => ?_)
  · skip
    go_wp2_with fail
    refine ⟨ClsE.of (by repeat (first | assumption | exact Keeps.refl _ _ | refine Keeps.alloc ?_ _ | refine Keeps.setOne ?_ _ _ | refine Keeps.setCell ?_ _ _ (.inl (by first | rfl | exact .inl rfl | exact .inr rfl | omega)) | refine Keeps.drew ?_)), ?_⟩; try simp only [nP]
    refine any_seg (L := #[true, true, true, false, true, true, false, false, false, false]) [] 5 (by kernel_rfl) (fun _ _ _ d _ h => by cases d <;> exact h) (by kernel_rfl) (by kernel_rfl) rfl rfl (ClsE.of (by repeat (first | assumption | exact Keeps.refl _ _ | refine Keeps.alloc ?_ _ | refine Keeps.setOne ?_ _ _ | refine Keeps.setCell ?_ _ _ (.inl (by first | rfl | exact .inl rfl | exact .inr rfl | omega)) | refine Keeps.drew ?_))) ?_; simp only [planL, nL]
    refine plan_nil ?_
    refine any_fork 3 6 (by kernel_rfl) (by kernel_rfl) rfl rfl rfl rfl (fun K hK => ?_) (fun K hK => ?_)
    · skip
      refine Mem.oper (wr := w4) HM.out.to (by repeat (first | assumption | exact Keeps.refl _ _ | with_reducible apply Keeps.drew | with_reducible apply Keeps.alloc)) fun w5 M hE5 => ?_
      replace HM := Lib.hid M
      clear M
      obtain ⟨v6, w6, hr, hm, hE6, hn6⟩ := Mem.copyEns 47 (HM.out.pick (r := cellsR _ 35 []) (by with_reducible repeat first | exact ph | apply pt)) hE5 (by first | exact Nat.le_refl _ | omega) HV4.out HPL.out
      replace HM := Lib.hid hm
      have HN6 := Lib.hid hn6
      refine oper_append_ran _ _ hr rfl rfl rfl ?_
      clear hr hm hn6 hE5
      refine hK _ _ ⟨ClsE.of (by assumption), ?_⟩; clear hK K; try simp only [nP]
      refine any_end [(2, 6)] [7, 8, 9] (by kernel_rfl) (fun _ _ _ d _ h => by cases d <;> exact h) (by kernel_rfl) (by kernel_rfl) rfl rfl (ClsE.of (by repeat (first | assumption | exact Keeps.refl _ _ | refine Keeps.alloc ?_ _ | refine Keeps.setOne ?_ _ _ | refine Keeps.setCell ?_ _ _ (.inl (by first | rfl | exact .inl rfl | exact .inr rfl | omega)) | refine Keeps.drew ?_))) ?_; simp only [planL, nL]
      refine plan_does rfl (fun K hK => ?_)
      go_wp2_with fail
      refine ⟨ClsE.of (by repeat (first | assumption | exact Keeps.refl _ _ | refine Keeps.alloc ?_ _ | refine Keeps.setOne ?_ _ _ | refine Keeps.setCell ?_ _ _ (.inl (by first | rfl | exact .inl rfl | exact .inr rfl | omega)) | refine Keeps.drew ?_)), ?_⟩; try simp only [nP]
      refine plan_nil ?_; simp only [tailL, List.filterMap_cons, List.filterMap_nil, nL]; change wpList _ _ _ (_ :: _ :: _ :: []) _ _
      clear fM
      try clear hE6
      have fM := HM.out.fa
      go_wp2_with (at_builtin; refine standing ?_)
      all_goals clear fM
      refine nxt HM fun w7 M => ?_
      clear HM; have HM := M; clear M
      obtain ⟨Ahb, hb⟩ := HM.out.get (r := cellsR _ 35 [.int .i64 e.kind, .int .i64 e.member, .int .i64 e.number, .string (bs e.text)]) (by with_reducible repeat first | exact ph | apply pt)
      obtain ⟨v8, w8, hr, hm, -, hn8⟩ := Mem.addEn (c := 1) e 47 HM.out (by with_reducible repeat first | exact ph | apply pt) HM.out.extTo (fun k hk => Nat.le_trans HE4.out.size (HN6.out k hk)) hb.2.reads.1 HPL.out
      obtain ⟨l8, hl8⟩ : ∃ l8, J.put ++ [e] = l8 := ⟨_, rfl⟩
      rw [hl8] at hm
      have HL8 := Lib.hid hl8
      clear hl8
      obtain ⟨p8, c8, rfl⟩ := hm.fact (fun A h => row_len h)
      replace HM := Lib.hid hm
      refine ⟨?_⟩
      refine wpList_append_ran rfl _ _ hr rfl rfl rfl ?_
      clear hr hm hn8 hb
      try clear Ahb
      have fM := HM.out.fa
      go_wp2_with (first
        | ((with_reducible refine at_list ?_); first
          | ((with_reducible refine at_load 49 _ rfl ?_); refine ldW 49 _ rfl rfl rfl HM.out Tryd.underlying49 rfl infoRJ ?_)
          | ((first
            | ((with_reducible refine at_store 49 _ _ rfl ?_); refine stW 49 _ _ rfl rfl rfl rfl HM.out infoRJ ?_; intro w9 M)
            | ((with_reducible refine at_box 49 _ rfl ?_); refine boW 49 _ rfl rfl rfl HM.out ?_; intro w9 n9 M)
            | ((with_reducible refine at_alloc 49 rfl ?_); refine alW 49 rfl rfl (zeroRJ _) HM.out ?_; intro w9 n9 M)); replace HM := Lib.hid M; clear M; clear fM; have fM := HM.out.fa)))
      all_goals clear fM
      refine nxt HM fun w9 M => ?_
      clear HM; have HM := M; clear M
      have hU := (HM.out.pick (r := rowR enE (.slice p8 l8.length c8) l8) (by with_reducible repeat first | exact ph | apply pt)).upd.row
      refine bodyPost_ret (rtW 49 Tryd.results13 _ rfl HM.out Tryd.underlying49 rfl infoRJ) rfl ?_
      rw [HQ.out]
      rw [HL8.out]
      exact ⟨_, rfl, ((HR.out.ext hU.2).mono (fun k hk => Or.inl hk)).setPut _ l8 (hU.1.mono (Nat.zero_le _)) (fun k hk => .inr (Win.block hU.1 k hk).1), hU.2⟩
    · skip
      go_wp2_with fail
      refine ⟨ClsE.of (by repeat (first | assumption | exact Keeps.refl _ _ | refine Keeps.alloc ?_ _ | refine Keeps.setOne ?_ _ _ | refine Keeps.setCell ?_ _ _ (.inl (by first | rfl | exact .inl rfl | exact .inr rfl | omega)) | refine Keeps.drew ?_)), ?_⟩; try simp only [nP]
      refine any_end [(2, 3)] [7, 8, 9] (by kernel_rfl) (fun _ _ _ d _ h => by cases d <;> exact h) (by kernel_rfl) (by kernel_rfl) rfl rfl (ClsE.of (by repeat (first | assumption | exact Keeps.refl _ _ | refine Keeps.alloc ?_ _ | refine Keeps.setOne ?_ _ _ | refine Keeps.setCell ?_ _ _ (.inl (by first | rfl | exact .inl rfl | exact .inr rfl | omega)) | refine Keeps.drew ?_))) ?_; simp only [planL, nL]
      refine plan_does rfl (fun K hK => ?_)
      refine Mem.oper (wr := w4) HM.out.to (by repeat (first | assumption | exact Keeps.refl _ _ | with_reducible apply Keeps.drew | with_reducible apply Keeps.alloc)) fun w5 M hE5 => ?_
      replace HM := Lib.hid M
      clear M
      obtain ⟨v6, w6, hr, hm, hE6, hn6⟩ := Mem.copyEns 47 (HM.out.pick (r := cellsR _ 35 []) (by with_reducible repeat first | exact ph | apply pt)) hE5 (by first | exact Nat.le_refl _ | omega) HV4.out HPL.out
      replace HM := Lib.hid hm
      have HN6 := Lib.hid hn6
      refine oper_append_ran _ _ hr rfl rfl rfl ?_
      clear hr hm hn6 hE5
      refine hK _ _ ⟨ClsE.of (by assumption), ?_⟩; clear hK K; try simp only [nP]
      refine plan_nil ?_; simp only [tailL, List.filterMap_cons, List.filterMap_nil, nL]; change wpList _ _ _ (_ :: _ :: _ :: []) _ _
      clear fM
      try clear hE6
      have fM := HM.out.fa
      go_wp2_with (at_builtin; refine standing ?_)
      all_goals clear fM
      refine nxt HM fun w7 M => ?_
      clear HM; have HM := M; clear M
      obtain ⟨Ahb, hb⟩ := HM.out.get (r := cellsR _ 35 [.int .i64 e.kind, .int .i64 e.member, .int .i64 e.number, .string (bs e.text)]) (by with_reducible repeat first | exact ph | apply pt)
      obtain ⟨v8, w8, hr, hm, -, hn8⟩ := Mem.addEn (c := 1) e 47 HM.out (by with_reducible repeat first | exact ph | apply pt) HM.out.extTo (fun k hk => Nat.le_trans HE4.out.size (HN6.out k hk)) hb.2.reads.1 HPL.out
      obtain ⟨l8, hl8⟩ : ∃ l8, J.put ++ [e] = l8 := ⟨_, rfl⟩
      rw [hl8] at hm
      have HL8 := Lib.hid hl8
      clear hl8
      obtain ⟨p8, c8, rfl⟩ := hm.fact (fun A h => row_len h)
      replace HM := Lib.hid hm
      refine ⟨?_⟩
      refine wpList_append_ran rfl _ _ hr rfl rfl rfl ?_
      clear hr hm hn8 hb
      try clear Ahb
      have fM := HM.out.fa
      go_wp2_with (first
        | ((with_reducible refine at_list ?_); first
          | ((with_reducible refine at_load 49 _ rfl ?_); refine ldW 49 _ rfl rfl rfl HM.out Tryd.underlying49 rfl infoRJ ?_)
          | ((first
            | ((with_reducible refine at_store 49 _ _ rfl ?_); refine stW 49 _ _ rfl rfl rfl rfl HM.out infoRJ ?_; intro w9 M)
            | ((with_reducible refine at_box 49 _ rfl ?_); refine boW 49 _ rfl rfl rfl HM.out ?_; intro w9 n9 M)
            | ((with_reducible refine at_alloc 49 rfl ?_); refine alW 49 rfl rfl (zeroRJ _) HM.out ?_; intro w9 n9 M)); replace HM := Lib.hid M; clear M; clear fM; have fM := HM.out.fa)))
      all_goals clear fM
      refine nxt HM fun w9 M => ?_
      clear HM; have HM := M; clear M
      have hU := (HM.out.pick (r := rowR enE (.slice p8 l8.length c8) l8) (by with_reducible repeat first | exact ph | apply pt)).upd.row
      refine bodyPost_ret (rtW 49 Tryd.results13 _ rfl HM.out Tryd.underlying49 rfl infoRJ) rfl ?_
      rw [HQ.out]
      rw [HL8.out]
      exact ⟨_, rfl, ((HR.out.ext hU.2).mono (fun k hk => Or.inl hk)).setPut _ l8 (hU.1.mono (Nat.zero_le _)) (fun k hk => .inr (Win.block hU.1 k hk).1), hU.2⟩
  · skip
    go_wp2_with fail
    refine ⟨ClsE.of (by repeat (first | assumption | exact Keeps.refl _ _ | refine Keeps.alloc ?_ _ | refine Keeps.setOne ?_ _ _ | refine Keeps.setCell ?_ _ _ (.inl (by first | rfl | exact .inl rfl | exact .inr rfl | omega)) | refine Keeps.drew ?_)), ?_⟩; try simp only [nP]
    refine any_end [(2, 0), (2, 3)] [7, 8, 9] (by kernel_rfl) (fun _ _ _ d _ h => by cases d <;> exact h) (by kernel_rfl) (by kernel_rfl) rfl rfl (ClsE.of (by repeat (first | assumption | exact Keeps.refl _ _ | refine Keeps.alloc ?_ _ | refine Keeps.setOne ?_ _ _ | refine Keeps.setCell ?_ _ _ (.inl (by first | rfl | exact .inl rfl | exact .inr rfl | omega)) | refine Keeps.drew ?_))) ?_; simp only [planL, nL]
    refine plan_does rfl (fun K hK => ?_)
    go_wp2_with fail
    refine ⟨ClsE.of (by repeat (first | assumption | exact Keeps.refl _ _ | refine Keeps.alloc ?_ _ | refine Keeps.setOne ?_ _ _ | refine Keeps.setCell ?_ _ _ (.inl (by first | rfl | exact .inl rfl | exact .inr rfl | omega)) | refine Keeps.drew ?_)), ?_⟩; try simp only [nP]
    refine plan_does rfl (fun K hK => ?_)
    refine Mem.oper (wr := w4) HM.out.to (by repeat (first | assumption | exact Keeps.refl _ _ | with_reducible apply Keeps.drew | with_reducible apply Keeps.alloc)) fun w5 M hE5 => ?_
    replace HM := Lib.hid M
    clear M
    obtain ⟨v6, w6, hr, hm, hE6, hn6⟩ := Mem.copyEns 47 (HM.out.pick (r := cellsR _ 35 []) (by with_reducible repeat first | exact ph | apply pt)) hE5 (by first | exact Nat.le_refl _ | omega) HV4.out HPL.out
    replace HM := Lib.hid hm
    have HN6 := Lib.hid hn6
    refine oper_append_ran _ _ hr rfl rfl rfl ?_
    clear hr hm hn6 hE5
    refine hK _ _ ⟨ClsE.of (by assumption), ?_⟩; clear hK K; try simp only [nP]
    refine plan_nil ?_; simp only [tailL, List.filterMap_cons, List.filterMap_nil, nL]; change wpList _ _ _ (_ :: _ :: _ :: []) _ _
    clear fM
    try clear hE6
    have fM := HM.out.fa
    go_wp2_with (at_builtin; refine standing ?_)
    all_goals clear fM
    refine nxt HM fun w7 M => ?_
    clear HM; have HM := M; clear M
    obtain ⟨Ahb, hb⟩ := HM.out.get (r := cellsR _ 35 [.int .i64 e.kind, .int .i64 e.member, .int .i64 e.number, .string (bs e.text)]) (by with_reducible repeat first | exact ph | apply pt)
    obtain ⟨v8, w8, hr, hm, -, hn8⟩ := Mem.addEn (c := 1) e 47 HM.out (by with_reducible repeat first | exact ph | apply pt) HM.out.extTo (fun k hk => Nat.le_trans HE4.out.size (HN6.out k hk)) hb.2.reads.1 HPL.out
    obtain ⟨l8, hl8⟩ : ∃ l8, J.put ++ [e] = l8 := ⟨_, rfl⟩
    rw [hl8] at hm
    have HL8 := Lib.hid hl8
    clear hl8
    obtain ⟨p8, c8, rfl⟩ := hm.fact (fun A h => row_len h)
    replace HM := Lib.hid hm
    refine ⟨?_⟩
    refine wpList_append_ran rfl _ _ hr rfl rfl rfl ?_
    clear hr hm hn8 hb
    try clear Ahb
    have fM := HM.out.fa
    go_wp2_with (first
      | ((with_reducible refine at_list ?_); first
        | ((with_reducible refine at_load 49 _ rfl ?_); refine ldW 49 _ rfl rfl rfl HM.out Tryd.underlying49 rfl infoRJ ?_)
        | ((first
          | ((with_reducible refine at_store 49 _ _ rfl ?_); refine stW 49 _ _ rfl rfl rfl rfl HM.out infoRJ ?_; intro w9 M)
          | ((with_reducible refine at_box 49 _ rfl ?_); refine boW 49 _ rfl rfl rfl HM.out ?_; intro w9 n9 M)
          | ((with_reducible refine at_alloc 49 rfl ?_); refine alW 49 rfl rfl (zeroRJ _) HM.out ?_; intro w9 n9 M)); replace HM := Lib.hid M; clear M; clear fM; have fM := HM.out.fa)))
    all_goals clear fM
    refine nxt HM fun w9 M => ?_
    clear HM; have HM := M; clear M
    have hU := (HM.out.pick (r := rowR enE (.slice p8 l8.length c8) l8) (by with_reducible repeat first | exact ph | apply pt)).upd.row
    refine bodyPost_ret (rtW 49 Tryd.results13 _ rfl HM.out Tryd.underlying49 rfl infoRJ) rfl ?_
    rw [HQ.out]
    rw [HL8.out]
    exact ⟨_, rfl, ((HR.out.ext hU.2).mono (fun k hk => Or.inl hk)).setPut _ l8 (hU.1.mono (Nat.zero_le _)) (fun k hk => .inr (Win.block hU.1 k hk).1), hU.2⟩
theorem may_if {a b : Prop} [Decidable a] [Decidable b] {x : Int} (h : x = if a then 2 else if b then 4 else 0) (h0 : x = 0) : ¬ a ∧ ¬ b := by
  rw [h0] at h
  split at h
  · cases h
  · split at h
    · cases h
    · exact ⟨by assumption, by assumption⟩
theorem rsee_any {A : Nat → Prop} (w : World) (J : JA) (cs : List Value) (x : Sn) (h : RefAt w A J cs) (hA : ∀ k, A k → k < w.heap.size) (hok : OkR J) (hpl : J.put.length ≤ 4096) (ht : x.e.text.length ≤ 500000) : SeeC w A J cs x := by
  by_cases hm : mayE J x = 0
  case neg => exact rsee_may w J cs x h hA hok ht hm
  obtain ⟨kind, who, index, e⟩ := x
  by_cases hk : 1 ≤ kind ∧ kind ≤ 6
  case neg => rw [mayE_none hk] at hm; cases hm
  have h9 := hok.n
  have h16 := hok.m
  obtain rfl | rfl | rfl | rfl | rfl | rfl : kind = 1 ∨ kind = 2 ∨ kind = 3 ∨ kind = 4 ∨ kind = 5 ∨ kind = 6 := by omega
  · exact rsee_1 w J cs who index e h hA hok hpl ht hm
  · obtain ⟨h1, h2⟩ := may_if (show mayE J ⟨2, who, index, e⟩ = if index < 0 ∨ (e.kind = 1 ∨ enB e = false) then 2 else if who < 0 ∨ J.n ≤ who then 4 else 0 by simp [mayE, kindF]) hm
    obtain ⟨p, rfl⟩ : ∃ p : Nat, who = p := ⟨who.toNat, by omega⟩
    exact rsee_2 w J cs p index e h hA hok ht (by omega) (by have h3 : ¬ index < 0 := fun h => h1 (.inl h); omega) hm
  · obtain ⟨h1, h2⟩ := may_if (show mayE J ⟨3, who, index, e⟩ = if index < 0 then 2 else if who < 0 ∨ J.n ≤ who then 4 else 0 by simp [mayE, kindF]) hm
    obtain ⟨p, rfl⟩ : ∃ p : Nat, who = p := ⟨who.toNat, by omega⟩
    exact rsee_3 w J cs p index e h hA hok ht (by omega) hm
  · obtain ⟨h1, h2⟩ := may_if (show mayE J ⟨4, who, index, e⟩ = if index < 0 then 2 else if who < 0 ∨ J.m ≤ who then 4 else 0 by simp [mayE, kindF]) hm
    obtain ⟨p, rfl⟩ : ∃ p : Nat, who = p := ⟨who.toNat, by omega⟩
    exact rsee_4 w J cs p index e h hA hok ht (by omega) (by omega) hm
  · obtain ⟨h1, h2⟩ := may_if (show mayE J ⟨5, who, index, e⟩ = if index < 0 ∨ (e.kind = 1 ∨ enB e = false) then 2 else if who < 0 ∨ J.m ≤ who then 4 else 0 by simp [mayE, kindF]) hm
    obtain ⟨p, rfl⟩ : ∃ p : Nat, who = p := ⟨who.toNat, by omega⟩
    exact rsee_5 w J cs p index e h hA hok ht (by omega) (by have h3 : ¬ index < 0 := fun h => h1 (.inl h); omega) hm
  · obtain ⟨h1, h2⟩ := may_if (show mayE J ⟨6, who, index, e⟩ = if index < -1 then 2 else if who < 0 ∨ J.m ≤ who then 4 else 0 by simp [mayE, kindF]) hm
    obtain ⟨p, rfl⟩ : ∃ p : Nat, who = p := ⟨who.toNat, by omega⟩
    exact rsee_6 w J cs p index e h hA hok ht (by omega) hm
/-- what comes by a thing seen is such again -/
theorem putIn_len (J : JA) (e : En) : (J.putIn e).put.length ≤ J.put.length + 1 := by
  unfold JA.putIn
  dsimp only
  split
  · omega
  · simp
theorem kindsR_st (J : JA) (x : Sn) (h : J.T.Ok) : (kindsR J x).1.T.Ok ∧ (kindsR J x).1.put.length ≤ J.put.length + 1 := by
  by_cases h0 : (kindsR J x).2 = 0
  case neg => rw [kindsR_bad J x h0]; exact ⟨h, Nat.le_succ _⟩
  clear h0
  unfold kindsR
  split
  · unfold putR; split
    · exact ⟨h, putIn_len J x.e⟩
    · exact ⟨h, Nat.le_succ _⟩
  split
  · unfold lineR
    split
    · exact ⟨h, Nat.le_succ _⟩
    split
    · split
      · exact ⟨h, Nat.le_succ _⟩
      · exact ⟨h, Nat.le_succ _⟩
    split
    · exact ⟨h, Nat.le_succ _⟩
    split
    · rename_i hc
      obtain ⟨h1, h2⟩ := hc
      rw [Bool.and_eq_true] at h2
      exact ⟨h.put x.e h2.1 h2.2, Nat.le_succ _⟩
    · exact ⟨h, Nat.le_succ _⟩
  split
  · unfold backR; repeat' split
    all_goals exact ⟨h, Nat.le_succ _⟩
  split
  · unfold beganR; repeat' split
    all_goals exact ⟨h, Nat.le_succ _⟩
  split
  · unfold toldR; repeat' split
    all_goals exact ⟨h, Nat.le_succ _⟩
  · unfold wentR; split
    all_goals exact ⟨h, Nat.le_succ _⟩
theorem seeR_st (J : JA) (x : Sn) (h : J.T.Ok) : (seeR J x).1.T.Ok ∧ (seeR J x).1.put.length ≤ J.put.length + 1 := by
  have hk := kindsR_st J x h
  unfold seeR
  split
  · split
    · exact hk
    · exact hk
  · exact ⟨h, Nat.le_succ _⟩
theorem J0_okr {c m : Int} (hc : RightC c) (h2 : m ≤ 16) : OkR (J0 c m) := ⟨OkJ.new hc h2, T0_ok, by show (0 : Nat) ≤ 1000000; omega⟩
abbrev nilV : Value := .slice none 0 0
instance wd0 : Wd 0 [] := ⟨rfl, fun u h => by cases h⟩
instance wdC (v : Value) (l : List Value) (n : Nat) [g : One v] [h : Wd n l] : Wd (n + 1) (v :: l) := ⟨by rw [List.length_cons, h.len], fun u hu => by
  rcases List.mem_cons.1 hu with rfl | hu
  · exact g.out
  · exact h.one u hu⟩
theorem build_rj (w : World) (c m : Int) : (Instr.build 49 #[(0, .int .i64 c), (1, .int .i64 m)]).run Tryd.prog w = .ok (.agg ((J0k c m 0).rcells nilV nilV).toArray) w := by kernel_rfl
theorem J0k_rset (c m : Int) (k : Nat) (hk : k < 16) : ((J0k c m k).rcells nilV nilV).set (13 + k) (.int .i64 (-1)) = (J0k c m (k + 1)).rcells nilV nilV := by
  obtain rfl | rfl | rfl | rfl | rfl | rfl | rfl | rfl | rfl | rfl | rfl | rfl | rfl | rfl | rfl | rfl : k = 0 ∨ k = 1 ∨ k = 2 ∨ k = 3 ∨ k = 4 ∨ k = 5 ∨ k = 6 ∨ k = 7 ∨ k = 8 ∨ k = 9 ∨ k = 10 ∨ k = 11 ∨ k = 12 ∨ k = 13 ∨ k = 14 ∨ k = 15 := by omega
  all_goals rfl
theorem rnew_any (w : World) (c m : Int) (hc : RightC c) (h1 : 1 ≤ m) (h2 : m ≤ 16) :
    Calls Tryd.prog 12 #[.int .i64 c, .int .i64 m] w fun r w' => ∃ cs, r = .returned (.tuple #[.agg cs.toArray, .int .i64 0]) ∧ RefAt w' NoB (J0 c m) cs ∧ Ext w w' := by
  have HM := Lib.hid (Mem.start0 w)
  have HC := Lib.hid hc
  have e1 : ¬ m < 1 := by omega
  have e2 : ¬ 16 < m := by omega
  have HLEN := Lib.hid (show ((J0k c m 0).rcells nilV nilV).length = 31 from rfl)
  have HONE := Lib.hid ((J0k c m 0).rcells_one none none 0 0 0 0)
  have HWD : Wd _ _ := ⟨HLEN.out, HONE.out⟩
  clear hc
  go_enter Tryd.func12, Tryd.ntmps12
  have fM := HM.out.fa
  go_wp2_with (first
    | ((with_reducible refine at_list ?_); first
      | ((with_reducible refine at_load 49 _ rfl ?_); refine ldW 49 _ rfl rfl rfl HM.out Tryd.underlying49 rfl infoRJ ?_)
      | ((first
        | ((with_reducible refine at_store 49 _ _ rfl ?_); refine stW 49 _ _ rfl rfl rfl rfl HM.out infoRJ ?_; intro w9 M)
        | ((with_reducible refine at_box 49 _ rfl ?_); refine boW 49 _ rfl rfl rfl HM.out ?_; intro w9 n9 M)
        | ((with_reducible refine at_alloc 49 rfl ?_); refine alW 49 rfl rfl (zeroRJ _) HM.out ?_; intro w9 n9 M)); replace HM := Lib.hid M; clear M; clear fM; have fM := HM.out.fa)))
  all_goals clear fM
  rename Nat => n4
  refine (ref12_any _ c).mono ?_
  rintro r wq ⟨rfl, hwq⟩
  rw [hwq, decide_eq_true HC.out]
  clear hwq wq
  have fM := HM.out.fa
  go_wp2_with (first
    | ((with_reducible refine at_list ?_); first
      | ((with_reducible refine at_load 49 _ rfl ?_); refine ldW 49 _ rfl rfl rfl HM.out Tryd.underlying49 rfl infoRJ ?_)
      | ((first
        | ((with_reducible refine at_store 49 _ _ rfl ?_); refine stW 49 _ _ rfl rfl rfl rfl HM.out infoRJ ?_; intro w9 M)
        | ((with_reducible refine at_box 49 _ rfl ?_); refine boW 49 _ rfl rfl rfl HM.out ?_; intro w9 n9 M)
        | ((with_reducible refine at_alloc 49 rfl ?_); refine alW 49 rfl rfl (zeroRJ _) HM.out ?_; intro w9 n9 M)); replace HM := Lib.hid M; clear M; clear fM; have fM := HM.out.fa))
    | (refine wpList_build_wide 49 (v := .agg ((J0k c m 0).rcells nilV nilV).toArray) rfl rfl (build_rj _ c m) ?_))
  all_goals clear fM
  refine nxt HM fun w5 M => ?_
  clear HM; have HM := M; clear M
  go_loopw [7] (fun i wr => ∃ k : Nat, k ≤ 16 ∧ i = .int .i64 k ∧ Hid (Mem NoB w wr [cellsR n9 49 ((J0k c m k).rcells nilV nilV), cellsR n4 49 zRJ])) (fun i _ => 16 - (intOf i).toNat)
  case atStart => exact ⟨0, Nat.zero_le _, rfl, HM⟩
  case round =>
    obtain ⟨k, hk, rfl, HM⟩ := hrel
    by_cases hlt : k < 16
    · have g3 : (k : Int) < 16 := by omega
      have g4 : ¬ (k : Int) < 0 := by omega
      have c0 : ∃ u, ((J0k c m k).rcells nilV nilV)[13 + k]? = some u := ⟨_, ((J0k c m k).rat nilV nilV rfl (by simp [J0k]; omega)).2.2.2.2.2.1 k hlt⟩
      obtain ⟨u, hu⟩ := c0
      have hset := J0k_rset c m k hlt
      obtain ⟨cs, hcs⟩ : ∃ cs, (J0k c m k).rcells nilV nilV = cs := ⟨_, rfl⟩
      rw [hcs] at hu HM hset
      have HS := Lib.hid hset
      clear hset hcs
      have fM := HM.out.fa
      go_wp2_with fail
      all_goals clear fM
      go_roundw
      case rel =>
        refine ⟨k + 1, by omega, by go_num, Lib.hid ?_⟩
        rw [← HS.out]
        apply Mem.mem
        · skip
          exact HM.out.to
        intro w8 M
        exact Mem.sub M (by repeat first | exact Sub.nil | refine Sub.cons (by with_reducible repeat first | exact ph | apply pt) ?_)
      case measure => simp [intOf]; omega
    · obtain rfl : k = 16 := by omega
      have HLEN1 := Lib.hid (show ((J0k c m 16).rcells nilV nilV).length = 31 from rfl)
      have HONE1 := Lib.hid ((J0k c m 16).rcells_one none none 0 0 0 0)
      have HWD1 : Wd _ _ := ⟨HLEN1.out, HONE1.out⟩
      have fM := HM.out.fa
      go_wp2_with (first
        | ((with_reducible refine at_list ?_); first
          | ((with_reducible refine at_load 49 _ rfl ?_); refine ldW 49 _ rfl rfl rfl HM.out Tryd.underlying49 rfl infoRJ ?_)
          | ((first
            | ((with_reducible refine at_store 49 _ _ rfl ?_); refine stW 49 _ _ rfl rfl rfl rfl HM.out infoRJ ?_; intro w9 M)
            | ((with_reducible refine at_box 49 _ rfl ?_); refine boW 49 _ rfl rfl rfl HM.out ?_; intro w9 n9 M)
            | ((with_reducible refine at_alloc 49 rfl ?_); refine alW 49 rfl rfl (zeroRJ _) HM.out ?_; intro w9 n9 M)); replace HM := Lib.hid M; clear M; clear fM; have fM := HM.out.fa)))
      all_goals clear fM
      refine nxt HM fun w6 M => ?_
      clear HM; have HM := M; clear M
      refine bodyPost_ret (rtW 49 Tryd.results12 _ rfl HM.out Tryd.underlying49 rfl infoRJ) rfl ?_
      exact ⟨_, rfl, ⟨nilV, nilV, rfl, Win.nil _ _ _, (fun k hk => by cases hk), Win.nil _ _ _, (fun k hk => by cases hk), rfl, rfl⟩, HM.out.extTo⟩
end Go.Proofs.YthhdgjofagdjeaaDoor
end
section
/- What the laws of layer 30 share: things seen as an argument, few, both judges told a list of things. Conditions: as each says. -/
set_option linter.unusedVariables false
set_option linter.unusedSimpArgs false
set_option maxHeartbeats 4000000
set_option maxRecDepth 100000
namespace Go.Proofs.YthhdgjofagdjeaaDoor
open Go.RowKit Go.Shelf Go.ChangeShapes Go.WideShapes
def Sn.cells (x : Sn) : List Value := [.int .i64 x.kind, .int .i64 x.who, .int .i64 x.index, .int .i64 x.e.kind, .int .i64 x.e.member, .int .i64 x.e.number, .string (bs x.e.text)]
/-- a thing seen whose numbers fit -/
structure OkS (x : Sn) : Prop where
  kind : I64 x.kind
  e : OkE x.e
def SnEn (cs : List Value) (x : Sn) : Prop := cs = x.cells ∧ OkS x
/-- a slice of things seen -/
def Sns (w : World) (A : Nat → Prop) (v : Value) (l : List Sn) : Prop := SlV A (AtOf w 7 SnEn) 7 v l
section
variable {w w' : World} {A S : Nat → Prop} {v : Value} {l : List Sn}
theorem Sns.keeps (h : Sns w A v l) (hk : Keeps S w w') (hA : ∀ k, A k → ¬ S k) : Sns w' A v l :=
  SlV.mono h (fun _ h => h) fun b o x hb ⟨cs, h1, h2, h3⟩ => ⟨cs, h1, h2, fun j hj => by
    have hc := h3 j hj
    rw [List.getElem?_eq_getElem (by omega)] at hc ⊢
    exact hk.cell (hA b hb) hc⟩
theorem Sns.ext (h : Sns w A v l) (hk : Ext w w') : Sns w' A v l := h.keeps hk fun _ _ => noB _
theorem Sns.len (h : Sns w A v l) : ∃ a c, v = .slice a l.length c := by
  rcases h with ⟨a, rfl, rfl⟩ | ⟨b, o, c, rfl, _⟩
  · exact ⟨_, _, rfl⟩
  · exact ⟨_, _, rfl⟩
theorem Sns.at {a : Option Addr} {c : Nat} (h : Sns w A (.slice a l.length c) l) (k : Nat) (hk : k < l.length) : ∃ g o, a = some ⟨g, o, none⟩ ∧ A g ∧ OkS l[k] ∧ ∀ j, j < 7 → w.cell? ⟨g, o + k * 7 + j, none⟩ = (l[k].cells)[j]? := by
  rcases h with ⟨a', h1, rfl⟩ | ⟨b, o, c', h1, h2, h3, h4⟩
  · simp at hk
  · cases h1
    obtain ⟨cs, ⟨rfl, h5⟩, h6, h7⟩ := h4 k hk
    exact ⟨b, o, rfl, h3, h5, h7⟩
theorem Sns.ok (h : Sns w A v l) : ∀ x ∈ l, OkS x := by
  intro x hx
  obtain ⟨k, hk, rfl⟩ := List.getElem_of_mem hx
  obtain ⟨a, c, rfl⟩ := h.len
  obtain ⟨_, _, _, _, h5, _⟩ := h.at k hk
  exact h5
end
theorem i64_of {n : Int} (h : (Lit.int .i64 n).wf = true) : I64 n := by
  unfold I64
  simp [Lit.wf, IntKind.min, IntKind.max, IntKind.signed, IntKind.bits] at h
  omega
/-- does a list hold few things, of short texts? -/
def fewB (l : List Sn) (most : Int) : Bool := l.all (fun x => decide (x.e.text.length ≤ 300)) && decide ((l.length : Int) ≤ most)
theorem fewB_text {l : List Sn} {most : Int} (h : fewB l most = true) : (∀ x ∈ l, x.e.text.length ≤ 300) ∧ (l.length : Int) ≤ most := by
  unfold fewB at h
  rw [Bool.and_eq_true, List.all_eq_true] at h
  exact ⟨fun x hx => of_decide_eq_true (h.1 x hx), of_decide_eq_true h.2⟩
theorem few_any {A : Nat → Prop} (w : World) (v : Value) (l : List Sn) (most : Int) (h : Sns w A v l) (hl : l.length ≤ 9223372036854775807) (hA : ∀ k, A k → k < w.heap.size) :
    Calls Tryd.prog 10 #[v, .int .i64 most] w fun r w' => r = .returned (.bool (fewB l most)) ∧ w' = w := by
  obtain ⟨a, c, rfl⟩ := h.len
  have HS := Lib.hid h
  have HL := Lib.hid hl
  have HA := Lib.hid hA
  clear h hl hA
  go_enter Tryd.func10, Tryd.ntmps10
  go_wp2_with fail
  go_loop [5] (fun i => ∃ k : Nat, k ≤ l.length ∧ i = .int .i64 k ∧ Hid (∀ j (hj : j < l.length), j < k → l[j].e.text.length ≤ 300)) (fun i => l.length - (intOf i).toNat)
  case atStart => exact ⟨0, Nat.zero_le _, rfl, Lib.hid fun j _ h => absurd h (by omega)⟩
  case round =>
    obtain ⟨k, hk, rfl, HP⟩ := hrel
    by_cases hlt : k < l.length
    · obtain ⟨g, o, rfl, hg, -, hx⟩ := HS.out.at k hlt
      have hgl := HA.out g hg
      have d6 : w.cell? ⟨g, o + k * 7 + 3 + 3, none⟩ = some (.string (bs l[k].e.text)) := hx 6 (by decide)
      obtain ⟨t, ht⟩ : ∃ t, l[k].e.text = t := ⟨_, rfl⟩
      rw [ht] at d6
      have HT := Lib.hid ht
      have hsz := bs_size t
      have g1 : (k : Int) < (l.length : Int) := by omega
      have g2 : ¬ (k : Int) < 0 := by omega
      have g3 : (k : Int) < 9223372036854775807 := by have := HL.out; omega
      have HK := Lib.hid hlt
      clear hg hx ht
      by_cases h3 : t.length ≤ 300
      · have g4 : ¬ (300 : Int) < (t.length : Int) := by omega
        have H3 := Lib.hid h3
        clear h3
        go_wp2_with fail
        go_round
        case rel => exact ⟨k + 1, by omega, by go_num, Lib.hid fun j hj h => by
          by_cases e : j = k
          · subst e; rw [HT.out]; exact H3.out
          · exact HP.out j hj (by omega)⟩
        case measure => simp [intOf]; omega
      · have g4 : (300 : Int) < (t.length : Int) := by omega
        have HQ : Hid (fewB l most = false) := Lib.hid (by
          cases hb : fewB l most
          · rfl
          · have := (fewB_text hb).1 _ (List.getElem_mem hlt)
            rw [HT.out] at this
            exact absurd this h3)
        clear h3
        go_wp2_with fail
        go_ret
        exact ⟨by rw [HQ.out]; rfl, rfl⟩
    · obtain rfl : k = l.length := by omega
      have HQ : Hid (fewB l most = decide ((l.length : Int) ≤ most)) := Lib.hid (by
        unfold fewB
        rw [show l.all (fun x => decide (x.e.text.length ≤ 300)) = true from List.all_eq_true.2 fun x hx => by
          obtain ⟨j, hj, rfl⟩ := List.getElem_of_mem hx
          exact decide_eq_true (HP.out j hj hj), Bool.true_and])
      clear hlt hk
      go_wp2_with fail
      go_ret
      exact ⟨by rw [HQ.out]; rfl, rfl⟩
/-- the document's judge, as a thing in memory -/
def refR (cs : List Value) (J : JA) : Res := anyR (fun F w => RefAt w F J cs ∧ ∀ k, F k → k < w.heap.size) (fun h hk hs => ⟨h.1.keeps hk hs, fun k hF => Nat.lt_of_lt_of_le (h.2 k hF) hk.size⟩) (fun h => h.2)
theorem refR_tag {cs : List Value} {J : JA} : (refR cs J).tag = none := rfl
theorem RefAt.trim {w : World} {A : Nat → Prop} {J : JA} {cs : List Value} (h : RefAt w A J cs) : RefAt w (fun k => A k ∧ k < w.heap.size) J cs :=
  let ⟨vl, vp, h1, h2, h3, h4, h5, h6⟩ := h
  ⟨vl, vp, h1, h2, fun k hk => ⟨h3 k hk, (Win.block h2 k hk).2⟩, h4, fun k hk => ⟨h5 k hk, (Win.block h4 k hk).2⟩, h6⟩
theorem RefAt.upd {w w' : World} {A : Nat → Prop} {J : JA} {cs : List Value} (h : RefAt w' (fun k => A k ∨ w.heap.size ≤ k) J cs) (e : Ext w w') : Upd A w w' (refR cs J) :=
  ⟨_, ⟨h.trim, fun k hk => hk.2⟩, e.keeps, fun k hk => hk.1⟩
/-- told a list of things -/
def sees (J : JA) (l : List Sn) : JA := l.foldl (fun J x => (seeR J x).1) J
theorem sees_snoc (J : JA) (l : List Sn) (x : Sn) : sees J (l ++ [x]) = (seeR (sees J l) x).1 := by unfold sees; rw [List.foldl_append]; rfl
theorem sees_ok : ∀ (l : List Sn) (J : JA), OkJ J → J.T.Ok → OkJ (sees J l) ∧ (sees J l).T.Ok ∧ (sees J l).put.length ≤ J.put.length + l.length
  | [], J, hJ, hT => ⟨hJ, hT, Nat.le_refl _⟩
  | x :: l, J, hJ, hT => by
    have h4 := seeR_st J x hT
    obtain ⟨h1, h2, h3⟩ := sees_ok l (seeR J x).1 (hJ.see x) h4.1
    exact ⟨h1, h2, by have := h4.2; simp only [List.length_cons]; exact Nat.le_trans h3 (by omega)⟩
theorem Mem.postM {Fe : Fence} {n : Nat} {P : Program} {fn : Func} {R : Ending → World → Prop} {e : Exit} {a : Act} {F : Nat → Prop} {w0 w' : World} {L : List Res} (h : Mem F w0 w' L) (k : ∀ w, Mem F w0 w L → bodyPostM Fe n P fn R e a w) : bodyPostM Fe n P fn R e a w' := k _ h
instance gl8 (Fe : Fence) (n : Nat) (P : Program) (fn : Func) (R : Ending → World → Prop) (e : Exit) (a : Act) (w : World) : Gl (bodyPostM Fe n P fn R e a w) (fun w => bodyPostM Fe n P fn R e a w) w := ⟨id⟩
theorem sns_one {w : World} {b : Nat} {t : TypeId} {x : Sn} (h : Box w b t x.cells) (hx : OkS x) : Sns w (fun k => k = b) (.slice (some ⟨b, 0, none⟩) 1 1) [x] :=
  .inr ⟨b, 0, 1, rfl, Nat.le_refl _, rfl, fun i hi => by
    obtain rfl : i = 0 := by simp at hi; omega
    exact ⟨x.cells, ⟨rfl, hx⟩, rfl, fun j hj => by rw [Nat.zero_mul, Nat.zero_add]; exact h.reads.1 j⟩⟩
theorem exec_load_wide {P : Program} {o : Oper} {a : Act} {w w0 : World} {F : Nat → Prop} {L L' : List Res} (ty : TypeId) {d : TypeDesc} {b : Nat} {t : TypeId} {cs : List Value} (x : Operand) (ho : o.op = .load ty x) (hx : a.eval x = .pointer (some ⟨b, 0, none⟩)) (h : Mem F w0 w L) (p : Pick L (cellsR b t cs) L')
    (hu : P.underlying ty = some d) (hd : (match d with | .struct _ | .array _ _ => true | _ => false) = true) (hi : (P.info? ty).map (·.size) = some cs.length) : (execOp a.eval o).run P w = .ok (.value (.agg cs.toArray)) w := by
  have := loadVar_wide ty h p hu hd hi
  simp [execOp, ho, hx, Instr.loadAt, Instr.sureAddr, Sem.run_bind, Result.andThen, this]
theorem seq_nil2 (w : World) (p : Option Addr) : (binOp .eql 55 (.func (.func 33) #[] #[.pointer p]) .nilFunc).run Tryd.prog w = .ok (.bool false) w := by kernel_rfl
/-- a sequence over a talk's copy -/
def SeqP (q b : Nat) (T : TA) (F : Nat → Prop) (w : World) : Prop := ∃ F' : Nat → Prop, (∀ k, F k ↔ k = q ∨ F' k) ∧ Box w q 63 [.pointer (some ⟨b, 0, none⟩)] ∧ TalkX w F' b T
theorem SeqP.keeps {q b : Nat} {T : TA} {F S : Nat → Prop} {w w' : World} (h : SeqP q b T F w) (hk : Keeps S w w') (hs : ∀ k, F k → ¬ S k) : SeqP q b T F w' := by
  obtain ⟨F', h1, h2, h3⟩ := h
  exact ⟨F', h1, h2.keeps hk (hs q ((h1 q).2 (.inl rfl))), h3.keeps hk fun k hF => hs k ((h1 k).2 (.inr hF))⟩
theorem SeqP.lt {q b : Nat} {T : TA} {F : Nat → Prop} {w : World} (h : SeqP q b T F w) (k : Nat) (hk : F k) : k < w.heap.size := by
  obtain ⟨F', h1, h2, v, h3⟩ := h
  rcases (h1 k).1 hk with rfl | hk
  · exact h2.lt
  · exact h3.lt k hk
def seqR (q b : Nat) (T : TA) : Res := anyR (SeqP q b T) (fun h hk hs => h.keeps hk hs) (fun h => h.lt)
theorem seqR_tag {q b : Nat} {T : TA} : (seqR q b T).tag = none := rfl
/-- things that lie apart, as one -/
def sepR (L : List Res) : Res := anyR (fun F w => SepL L F w) (fun h hk hs => SepL.keeps h hk hs) (fun h => SepL.lt h)
theorem sepR_tag {L : List Res} : (sepR L).tag = none := rfl
theorem Mem.openSep {F : Nat → Prop} {w0 w : World} {L L1 : List Res} (h : Mem F w0 w (sepR L1 :: L)) : Mem F w0 w (L1 ++ L) := h.open fun A hA => ⟨A, hA, fun _ h => h⟩
theorem Mem.openSep2 {F : Nat → Prop} {w0 w : World} {L : List Res} {r1 r2 : Res} (h : Mem F w0 w (sepR [r1, r2] :: L)) : Mem F w0 w (r1 :: r2 :: L) := h.openSep
/-- the mark of a range -/
def markR (D : Nat) : Res := anyR (fun F w => (∀ k, F k ↔ k = D) ∧ Mark w D) (fun h hk hs => ⟨h.1, h.2.keeps hk (hs D ((h.1 D).2 rfl))⟩) (fun h k hk => by rw [(h.1 k).1 hk]; exact h.2.lt)
theorem markR_tag {D : Nat} : (markR D).tag = none := rfl
theorem upd_mark {A0 : Nat → Prop} {w w' : World} {nb : Nat} {v : Value} (hA : ∀ k, A0 k ↔ k = nb) (hb : Box w' nb 3 [v]) (hm : Mark w' w.heap.size) (hk : Keeps (OneB nb) w w') (hn : nb < w.heap.size) : Upd A0 w w' (sepR [cellsR nb 3 [v], markR w.heap.size]) :=
  ⟨fun k => k = nb ∨ k = w.heap.size, ⟨fun k => k = nb, fun k => k = w.heap.size, ⟨fun _ => Iff.rfl, hb⟩, ⟨fun k => k = w.heap.size, fun _ => False, ⟨fun _ => Iff.rfl, hm⟩, fun _ h => h, fun _ _ h => h, fun k => ⟨.inl, fun h => h.resolve_right id⟩⟩, fun k h1 h2 => by omega, fun _ => Iff.rfl⟩,
    hk.mono (fun i _ h => (hA i).2 h), fun k hk => by rcases hk with hk | hk; exact .inl ((hA k).2 hk); exact .inr (by omega)⟩
theorem Mem.apart {F : Nat → Prop} {w0 w : World} {L L1 L2 : List Res} {r r' : Res} (h : Mem F w0 w L) (p : Pick L r L1) (p2 : Pick L1 r' L2) : ∃ A B, r.p A w ∧ r'.p B w ∧ ∀ k, A k → ¬ B k := by
  obtain ⟨_, G, ⟨A, B, h1, h2, h3, h4⟩, _⟩ := h.pick p
  obtain ⟨C, D, g1, g2, g3, g4⟩ := p2.sep h2
  exact ⟨A, C, h1, g1, fun k hA hC => h3 k hA ((g4 k).2 (.inl hC))⟩
end Go.Proofs.YthhdgjofagdjeaaDoor
end
section
/- Things seen as arguments, opened. No condition. -/
set_option linter.unusedVariables false
set_option linter.unusedSimpArgs false
set_option maxRecDepth 100000
namespace Go.Proofs.YthhdgjofagdjeaaDoor
open Go.RowKit Go.ChangeShapes Go.WideShapes
theorem cellsI : Tryd.prog.cellsOf 3 = 1 := by kernel_rfl
theorem cellsI64 : Tryd.prog.cellsOf 2 = 1 := by kernel_rfl
theorem cellsS : Tryd.prog.cellsOf 9 = 1 := by kernel_rfl
theorem cellsEK : Tryd.prog.cellsOf 33 = 1 := by kernel_rfl
theorem cellsSK : Tryd.prog.cellsOf 32 = 1 := by kernel_rfl
theorem cellsEn : Tryd.prog.cellsOf 35 = 4 := by kernel_rfl
theorem cellsSn : Tryd.prog.cellsOf 37 = 7 := by kernel_rfl
theorem list4 {cs : List Value} (h : cs.length = 4) : ∃ a b c d, cs = [a, b, c, d] := by
  match cs, h with
  | [a, b, c, d], _ => exact ⟨a, b, c, d, rfl⟩
theorem list7 {cs : List Value} (h : cs.length = 7) : ∃ a b c d e f g, cs = [a, b, c, d, e, f, g] := by
  match cs, h with
  | [a, b, c, d, e, f, g], _ => exact ⟨a, b, c, d, e, f, g, rfl⟩
section
variable {H : Type} {enc : TypeId × Value → H} {w : World}
theorem rd_en : Rd enc Tryd.prog w 35 fun cs (e : En) => cs = e.cells ∧ OkE e := fun fuel cs x h => by
  obtain ⟨hl, hf⟩ := rd_field Tryd.underlying35 h
  rw [cellsEn] at hl
  obtain ⟨c0, c1, c2, c3, rfl⟩ := list4 hl
  obtain ⟨k0, h0, g0⟩ := hf 0 _ 0 1 rfl rfl cellsEK (rd_int Tryd.underlying33)
  obtain ⟨k1, h1, g1⟩ := hf 1 _ 1 1 rfl rfl cellsI (rd_int Tryd.underlying3)
  obtain ⟨k2, h2, g2⟩ := hf 2 _ 2 1 rfl rfl cellsI64 (rd_int Tryd.underlying2)
  obtain ⟨l, h3, g3⟩ := hf 3 _ 3 1 rfl rfl cellsS (rd_string Tryd.underlying9)
  simp at h0 h1 h2 h3
  exact ⟨⟨k0, k1, k2, l⟩, by rw [h0, h1, h2, h3]; rfl, i64_of g0, i64_of g1, i64_of g2, g3⟩
theorem rd_sn : Rd enc Tryd.prog w 37 fun cs (x : Sn) => SnEn cs x := fun fuel cs x h => by
  obtain ⟨hl, hf⟩ := rd_field Tryd.underlying37 h
  rw [cellsSn] at hl
  obtain ⟨c0, c1, c2, c3, c4, c5, c6, rfl⟩ := list7 hl
  obtain ⟨k0, h0, g0⟩ := hf 0 _ 0 1 rfl rfl cellsSK (rd_int Tryd.underlying32)
  obtain ⟨k1, h1, g1⟩ := hf 1 _ 1 1 rfl rfl cellsI (rd_int Tryd.underlying3)
  obtain ⟨k2, h2, g2⟩ := hf 2 _ 2 1 rfl rfl cellsI64 (rd_int Tryd.underlying2)
  obtain ⟨e, h3, g3⟩ := hf 3 _ 3 4 rfl rfl cellsEn rd_en
  simp [En.cells] at h0 h1 h2 h3
  obtain ⟨h3, h4, h5, h6⟩ := h3
  exact ⟨⟨k0, k1, k2, e⟩, by rw [h0, h1, h2, h3, h4, h5, h6]; rfl, i64_of g0, g3⟩
theorem open_sns {v : Value} {d : DataW H} {p : List MemPlace} {b : Nat} (hv : Value.okWide Tryd.prog w .any b 31 v) (h : DataW.Trod enc Tryd.prog w 0 (fun _ => true) true 31 v d p) :
    ∃ l : List Sn, Sns w (Old w) v l ∧ l.length ≤ 9223372036854775807 := by
  obtain ⟨fuel, hf⟩ := h
  obtain ⟨l, v', h1, h2, h3⟩ := rd_slice 7 Tryd.underlying31 cellsSn (by decide) rd_sn fuel _ _ hf
  rw [ok_slice Tryd.underlying31 hv] at h1
  obtain rfl : v = v' := by simpa using h1
  exact ⟨l, h2, h3⟩
theorem open_sn {v : Value} {d : DataW H} {p : List MemPlace} {b : Nat} (hv : Value.okWide Tryd.prog w .any b 37 v) (h : DataW.Trod enc Tryd.prog w 0 (fun _ => true) true 37 v d p) :
    ∃ x : Sn, v = x.v ∧ OkS x := by
  obtain ⟨fuel, hf⟩ := h
  obtain ⟨x, h1, h2⟩ := rd_sn fuel _ _ hf
  obtain ⟨cs, rfl, -⟩ := okWide_struct Tryd.underlying37 hv
  refine ⟨x, ?_, h2⟩
  have h5 : cs.toList = x.cells := h1
  obtain ⟨l⟩ := cs
  simp only at h5
  rw [h5]
  rfl
end
end Go.Proofs.YthhdgjofagdjeaaDoor
end
section
/- How many lines a place told, what a member is told next. Condition: the judge lies as 'JudgeX' says. -/
set_option linter.unusedVariables false
set_option linter.unusedSimpArgs false
set_option maxHeartbeats 2000000
set_option maxRecDepth 100000
namespace Go.Proofs.YthhdgjofagdjeaaDoor
open Go.RowKit
def atR (n : Nat) (f : Nat → Int) (i other : Int) : Int := if 0 ≤ i ∧ i < (n : Int) then f i.toNat else other
theorem at_any (w : World) (g o n c : Nat) (f : Nat → Int) (i other : Int) (h : ∀ k, k < n → w.cell? ⟨g, o + k, none⟩ = some (.int .i64 (f k))) :
    Calls Tryd.prog 38 #[.slice (some ⟨g, o, none⟩) n c, .int .i64 i, .int .i64 other] w fun r w' => r = .returned (.int .i64 (atR n f i other)) ∧ w' = w := by
  by_cases h0 : i < 0
  · have HQ := Lib.hid (show atR n f i other = other by unfold atR; rw [if_neg (by omega)])
    clear h
    go_enter Tryd.func38, Tryd.ntmps38
    go_wp2_with fail
    go_ret
    exact ⟨by rw [HQ.out]; rfl, rfl⟩
  · obtain ⟨k, rfl⟩ : ∃ k : Nat, i = k := ⟨i.toNat, by omega⟩
    by_cases h1 : k < n
    · have HQ := Lib.hid (show atR n f k other = f k by unfold atR; rw [if_pos (by omega)]; rfl)
      have hc := h k h1
      have g1 : ¬ (n : Int) ≤ (k : Int) := by omega
      have g2 : (k : Int) < (n : Int) := by omega
      clear h h1
      go_enter Tryd.func38, Tryd.ntmps38
      go_wp2_with fail
      go_ret
      exact ⟨by rw [HQ.out]; rfl, rfl⟩
    · have HQ := Lib.hid (show atR n f k other = other by unfold atR; rw [if_neg (by omega)])
      have g1 : (n : Int) ≤ (k : Int) := by omega
      clear h h1
      go_enter Tryd.func38, Tryd.ntmps38
      go_wp2_with fail
      go_ret
      exact ⟨by rw [HQ.out]; rfl, rfl⟩
theorem place_any {F : Nat → Prop} (w : World) (b : Nat) (J : JA) (p : Int) (h : JudgeX w F b J) (h0 : 0 ≤ J.n) (h9 : J.n ≤ 9) :
    Calls Tryd.prog 18 #[.pointer (some ⟨b, 0, none⟩), .int .i64 p] w fun r w' => r = .returned (.int .i64 (atR J.n.toNat (fun k => J.told.getD k 0) p 0)) ∧ Ext w w' := by
  have HX := Lib.hid h
  obtain ⟨n, hn⟩ : ∃ n : Nat, J.n = n := ⟨J.n.toNat, by omega⟩
  have hn9 : (n : Int) ≤ 9 := by omega
  have HN := Lib.hid hn
  clear h h0 h9 hn
  go_enter Tryd.func18, Tryd.ntmps18
  go_wp2_with fail
  refine (judge_none w b J HX.out).mono ?_
  rintro e w' ⟨rfl, rfl⟩
  obtain ⟨Ft, tb, mb, h⟩ := HX.out
  obtain ⟨c25, c26, c27, c28, c29, lt⟩ := h.see
  have HB := Lib.hid h.box
  have hcell : ∀ W, Ext w' W → ∀ k, k < n → W.cell? ⟨b, 0 + k, none⟩ = some (.int .i64 (J.told.getD k 0)) := fun W hW k hk => by
    rw [(h.box.ext hW).reads.1, Nat.zero_add, (J.at tb mb h.l9 h.l16).1 k (by omega), List.getD_eq_getElem?_getD, List.getElem?_eq_getElem (by have := h.l9; omega)]; rfl
  have HC := Lib.hid hcell
  rw [HN.out] at c26
  have g0 : ¬ (n : Int) < 0 := by omega
  clear h c25 c27 c28 c29 hcell
  go_wp2_with fail
  obtain ⟨cHB, zHB⟩ := HB.out.reads
  have lHB := HB.out.lt
  have hE0 : Keeps NoB w' w'.drew := (Keeps.refl _ _).drew
  refine wp_region_plan [(0, 0), (0, 1), (0, 2), (0, 3), (0, 4), (0, 5), (0, 6), (3, 7), (0, 8), (0, 9)] [] [10, 11] [10, 11] (ClsE w') (by kernel_rfl) (by kernel_rfl) (by kernel_rfl) rfl rfl (ClsE.of hE0) (fun _ _ _ d _ h => by cases d <;> exact h) ?_; simp only [planL, nL]
  refine pM _ rfl rfl ?_; simp only [nP, nE]
  iterate 3 (refine pR (v := ?_) rfl (fun W => ?_) ?_; rotate_left; (go_simp <;> with_reducible rfl); simp only [nP])
  refine pM _ rfl rfl ?_; simp only [nP, nE]
  iterate 2 (refine pR (v := ?_) rfl (fun W => ?_) ?_; rotate_left; (go_simp <;> with_reducible rfl); simp only [nP])
  refine pX (v := ?_) rfl ?_ ?_; rotate_left; (go_simp <;> with_reducible rfl); simp only [nP]
  refine pR (v := ?_) rfl (fun W => ?_) ?_; rotate_left; (go_simp <;> with_reducible rfl); simp only [nP]
  refine pM _ rfl rfl ?_; simp only [nP, nE]
  refine plan_nil ?_; simp only [tailL, List.filterMap_cons, List.filterMap_nil, nL]; change wpList _ _ _ (_ :: _ :: []) _ _
  go_wp2_with fail
  refine (at_any _ b 0 n 9 _ p 0 (HC.out _ hE0)).mono ?_
  rintro r w2 ⟨rfl, rfl⟩
  go_wp2_with fail
  clear cHB zHB lHB
  go_ret
  refine ⟨?_, by assumption⟩
  rw [HN.out]
  rfl
theorem member_any {F : Nat → Prop} (w : World) (b : Nat) (J : JA) (p : Int) (h : JudgeX w F b J) (h0 : 0 ≤ J.m) (h9 : J.m ≤ 16) :
    Calls Tryd.prog 19 #[.pointer (some ⟨b, 0, none⟩), .int .i64 p] w fun r w' => r = .returned (.int .i64 (atR J.m.toNat (fun k => J.next.getD k 0) p (-1))) ∧ Ext w w' := by
  have HX := Lib.hid h
  obtain ⟨n, hn⟩ : ∃ n : Nat, J.m = n := ⟨J.m.toNat, by omega⟩
  have hn9 : (n : Int) ≤ 16 := by omega
  have HN := Lib.hid hn
  clear h h0 h9 hn
  go_enter Tryd.func19, Tryd.ntmps19
  go_wp2_with fail
  refine (judge_none w b J HX.out).mono ?_
  rintro e w' ⟨rfl, rfl⟩
  obtain ⟨Ft, tb, mb, h⟩ := HX.out
  obtain ⟨c25, c26, c27, c28, c29, lt⟩ := h.see
  have HB := Lib.hid h.box
  have hcell : ∀ W, Ext w' W → ∀ k, k < n → W.cell? ⟨b, 9 + k, none⟩ = some (.int .i64 (J.next.getD k 0)) := fun W hW k hk => by
    rw [(h.box.ext hW).reads.1, (J.at tb mb h.l9 h.l16).2.1 k (by omega), List.getD_eq_getElem?_getD, List.getElem?_eq_getElem (by have := h.l16; omega)]; rfl
  have HC := Lib.hid hcell
  rw [HN.out] at c27
  have g0 : ¬ (n : Int) < 0 := by omega
  clear h c25 c26 c28 c29 hcell
  go_wp2_with fail
  obtain ⟨cHB, zHB⟩ := HB.out.reads
  have lHB := HB.out.lt
  have hE0 : Keeps NoB w' w'.drew := (Keeps.refl _ _).drew
  refine wp_region_plan [(0, 0), (0, 1), (0, 2), (0, 3), (0, 4), (0, 5), (0, 6), (3, 7), (0, 8), (0, 9)] [] [10, 11] [10, 11] (ClsE w') (by kernel_rfl) (by kernel_rfl) (by kernel_rfl) rfl rfl (ClsE.of hE0) (fun _ _ _ d _ h => by cases d <;> exact h) ?_; simp only [planL, nL]
  refine pM _ rfl rfl ?_; simp only [nP, nE]
  iterate 3 (refine pR (v := ?_) rfl (fun W => ?_) ?_; rotate_left; (go_simp <;> with_reducible rfl); simp only [nP])
  refine pM _ rfl rfl ?_; simp only [nP, nE]
  iterate 2 (refine pR (v := ?_) rfl (fun W => ?_) ?_; rotate_left; (go_simp <;> with_reducible rfl); simp only [nP])
  refine pX (v := ?_) rfl ?_ ?_; rotate_left; (go_simp <;> with_reducible rfl); simp only [nP]
  refine pR (v := ?_) rfl (fun W => ?_) ?_; rotate_left; (go_simp <;> with_reducible rfl); simp only [nP]
  refine pM _ rfl rfl ?_; simp only [nP, nE]
  refine plan_nil ?_; simp only [tailL, List.filterMap_cons, List.filterMap_nil, nL]; change wpList _ _ _ (_ :: _ :: []) _ _
  go_wp2_with fail
  refine (at_any _ b 9 n 16 _ p (-1) (HC.out _ hE0)).mono ?_
  rintro r w2 ⟨rfl, rfl⟩
  go_wp2_with fail
  clear cHB zHB lHB
  go_ret
  refine ⟨?_, by assumption⟩
  rw [HN.out]
  rfl
/-- a judge that is none -/
def NoneV (w : World) (v : Value) : Prop := v = .pointer none ∨ ∃ b, v = .pointer (some ⟨b, 0, none⟩) ∧ w.cell? ⟨b, 28, none⟩ = some (.pointer none) ∧ b < w.heap.size
theorem NoneV.ext {w w' : World} {v : Value} (h : NoneV w v) (e : Ext w w') : NoneV w' v := by
  rcases h with h | ⟨b, h1, h2, h3⟩
  · exact .inl h
  · exact .inr ⟨b, h1, e.cell h2, Nat.lt_of_lt_of_le h3 e.size⟩
theorem none_none (w : World) (v : Value) (h : NoneV w v) : Calls Tryd.prog 27 #[v] w fun e w' => e = .returned (.bool true) ∧ w' = w := by
  rcases h with rfl | ⟨b, rfl, h2, h3⟩
  · go_enter Tryd.func27, Tryd.ntmps27
    go_wp2_with fail
    go_ret
    exact ⟨rfl, rfl⟩
  · go_enter Tryd.func27, Tryd.ntmps27
    go_wp2_with fail
    go_ret
    exact ⟨rfl, rfl⟩
theorem none_place (w : World) (v : Value) (p : Int) (h : NoneV w v) : Calls Tryd.prog 18 #[v, .int .i64 p] w fun e w' => e = .returned (.int .i64 0) ∧ w' = w := by
  go_enter Tryd.func18, Tryd.ntmps18
  go_wp2_with fail
  refine (none_none w v h).mono ?_
  rintro e w' ⟨rfl, rfl⟩
  go_wp2_with fail
  go_ret
  exact ⟨rfl, rfl⟩
theorem none_member (w : World) (v : Value) (p : Int) (h : NoneV w v) : Calls Tryd.prog 19 #[v, .int .i64 p] w fun e w' => e = .returned (.int .i64 0) ∧ w' = w := by
  go_enter Tryd.func19, Tryd.ntmps19
  go_wp2_with fail
  refine (none_none w v h).mono ?_
  rintro e w' ⟨rfl, rfl⟩
  go_wp2_with fail
  go_ret
  exact ⟨rfl, rfl⟩
theorem none_broken (w : World) (v : Value)  (h : NoneV w v) : Calls Tryd.prog 22 #[v] w fun e w' => e = .returned (.int .i64 0) ∧ w' = w := by
  go_enter Tryd.func22, Tryd.ntmps22
  go_wp2_with fail
  refine (none_none w v h).mono ?_
  rintro e w' ⟨rfl, rfl⟩
  go_wp2_with fail
  go_ret
  exact ⟨rfl, rfl⟩
theorem none_whole (w : World) (v : Value) (h : NoneV w v) : Calls Tryd.prog 15 #[v] w fun e w' => e = .returned (.func (.func 31) #[] #[]) ∧ w' = w := by
  go_enter Tryd.func15, Tryd.ntmps15
  go_wp2_with fail
  refine (none_none w v h).mono ?_
  rintro e w' ⟨rfl, rfl⟩
  go_wp2_with fail
  go_ret
  exact ⟨rfl, rfl⟩
theorem none_see (w : World) (v : Value) (x : Sn) (h : NoneV w v) : Calls Tryd.prog 14 #[v, x.v] w fun e w' => e = .returned (.int .i64 1) ∧ Ext w w' := by
  have HN := Lib.hid h
  rcases h with rfl | ⟨b, rfl, h2, h3⟩
  · skip
    have HM := Lib.hid (Mem.start0 w)
    have HXV := Lib.hid (show x.v = .agg #[.int .i64 x.kind, .int .i64 x.who, .int .i64 x.index, .int .i64 x.e.kind, .int .i64 x.e.member, .int .i64 x.e.number, .string (bs x.e.text)] from rfl)
    rw [HXV.out]
    go_enter_defers Tryd.func14, Tryd.ntmps14
    have fM := HM.out.fa
    go_wp2_with fail
    all_goals clear fM
    refine nxt HM fun w0 M => ?_
    clear HM; have HM := M; clear M
    refine (none_none w0 (.pointer none) (HN.out.ext HM.out.extTo)).mono ?_
    rintro r wq ⟨rfl, hwq⟩
    rw [hwq]
    clear hwq wq
    have fM := HM.out.fa
    go_wp2_with fail
    all_goals clear fM
    refine nxt HM fun w3 M => ?_
    clear HM; have HM := M; clear M
    obtain ⟨Ahb, hb⟩ := HM.out.get (r := cellsR (w.heap.size + 1 + 1) 22 [.int .i64 1]) (by with_reducible repeat first | exact ph | apply pt)
    have hc := hb.2.reads.1
    exact ⟨.int .i64 1, by simp [results, Tryd.results14, go_sem, hc], rfl, HM.out.extTo⟩
  · clear h2 h3
    have HM := Lib.hid (Mem.start0 w)
    have HXV := Lib.hid (show x.v = .agg #[.int .i64 x.kind, .int .i64 x.who, .int .i64 x.index, .int .i64 x.e.kind, .int .i64 x.e.member, .int .i64 x.e.number, .string (bs x.e.text)] from rfl)
    rw [HXV.out]
    go_enter_defers Tryd.func14, Tryd.ntmps14
    have fM := HM.out.fa
    go_wp2_with fail
    all_goals clear fM
    refine nxt HM fun w0 M => ?_
    clear HM; have HM := M; clear M
    refine (none_none w0 (.pointer (some ⟨b, 0, none⟩)) (HN.out.ext HM.out.extTo)).mono ?_
    rintro r wq ⟨rfl, hwq⟩
    rw [hwq]
    clear hwq wq
    have fM := HM.out.fa
    go_wp2_with fail
    all_goals clear fM
    refine nxt HM fun w3 M => ?_
    clear HM; have HM := M; clear M
    obtain ⟨Ahb, hb⟩ := HM.out.get (r := cellsR (w.heap.size + 1 + 1) 22 [.int .i64 1]) (by with_reducible repeat first | exact ph | apply pt)
    have hc := hb.2.reads.1
    exact ⟨.int .i64 1, by simp [results, Tryd.results14, go_sem, hc], rfl, HM.out.extTo⟩
/-- what goes over a judge that is none hands nothing on -/
theorem none_iter {S : Nat → Prop} (w0 : World) : IterOK Fence.wide 8 Tryd.prog 31 #[] ([] : List (Int × En)) HandsOn S w0 := by
  intro ll J Jx W hll hJk hJs hJ hJx hround h0
  have H0 := Lib.hid h0
  clear hround hJk hJs hJ hJx h0
  refine callsIn_of_wp Tryd.func31 rfl trivial ?_ rfl
  simp only [Tryd.ntmps31, List.size_toArray, List.length_cons, List.length_nil, Nat.reduceAdd, Nat.reduceSub, Array.replicate_succ, Array.replicate_zero, List.push_toArray, List.append_toArray, List.nil_append, List.cons_append]
  gi_wp2_with fail
  refine bodyPost_end (results_none rfl _ _ _) rfl ?_
  exact ⟨⟨_, rfl⟩, .inl H0.out⟩
end Go.Proofs.YthhdgjofagdjeaaDoor
end
section
/- The talk of a list of entries each of which counts. Conditions: the list lies as 'RowAt' says; each entry counts behind those ahead of it ('Steps'); unicode/utf8's two tables read as their initialisers lay them. -/
set_option linter.unusedVariables false
set_option linter.unusedSimpArgs false
set_option maxHeartbeats 4000000
set_option maxRecDepth 100000
namespace Go.Proofs.YthhdgjofagdjeaaDoor
open Go.RowKit Go.Shelf
def fold (es : List En) : TA := es.foldl TA.put T0
structure StepOk (T : TA) (e : En) : Prop where
  en : enB e = true
  counts : (countsR T e).2 = true
  kind : I64 e.kind
  text : e.text.length ≤ 500000
def Steps (es : List En) : Prop := es.length ≤ 4096 ∧ ∀ k (h : k < es.length), StepOk (fold (es.take k)) es[k]
theorem fold_snoc (es : List En) (e : En) : fold (es ++ [e]) = (fold es).put e := by unfold fold; rw [List.foldl_append]; rfl
theorem put_e (T : TA) (e : En) : (T.put e).l.map (·.e) = T.l.map (·.e) ++ [e] := by simp [TA.put]
theorem fold_from : ∀ (es : List En) (T : TA), (es.foldl TA.put T).l.map (·.e) = T.l.map (·.e) ++ es ∧ (es.foldl TA.put T).slot = T.slot + es.length
  | [], T => by simp
  | e :: es, T => by
    have ih := fold_from es (T.put e)
    refine ⟨?_, ?_⟩
    · rw [List.foldl_cons, ih.1, put_e, List.append_assoc]; rfl
    · rw [List.foldl_cons, ih.2]
      show T.slot + 1 + (es.length : Int) = _
      rw [List.length_cons]; omega
theorem fold_e (es : List En) : (fold es).l.map (·.e) = es := (fold_from es T0).1
theorem fold_slot (es : List En) : (fold es).slot = es.length := by
  have := (fold_from es T0).2
  have h0 : T0.slot = 0 := rfl
  unfold fold; omega
theorem fold_len (es : List En) : (fold es).l.length = es.length := by
  have := congrArg List.length (fold_e es)
  simpa using this
theorem Steps.snoc {es : List En} {e : En} (h : Steps es) (he : StepOk (fold es) e) (hl : es.length < 4096) : Steps (es ++ [e]) := by
  refine ⟨by simp; omega, fun k hk => ?_⟩
  by_cases h1 : k < es.length
  · rw [List.getElem_append_left h1, List.take_append_of_le_length (by omega)]
    exact h.2 k h1
  · have e1 : k = es.length := by simp at hk; omega
    subst e1
    rw [List.getElem_append_right (by omega)]
    simpa using he
theorem talkR_of {b : Nat} {w : World} {F : Nat → Prop} {w0 : World} {L L' : List Res} (h : Mem F w0 w L) (p : Pick L (cellsR b 93 (T0.cells (.slice none 0 0))) L') : Mem F w0 w (talkR b T0 :: L') :=
  (h.pick p).turn fun A hA => ⟨.slice none 0 0, hA.2, Win.nil _ _ _, (hA.1 b).2 rfl, fun g hg => (by cases hg), fun k hk => (by rw [(hA.1 k).1 hk]; exact hA.2.lt), rfl⟩
theorem en_4 {w : World} {a : Option Addr} {c : Nat} {l : List En} (h : RowAt enE w 0 (.slice a l.length c) l) (k : Nat) (hk : k < l.length) :
    ∃ g o, a = some ⟨g, o, none⟩ ∧ g < w.heap.size ∧ w.cell? ⟨g, o + k * 4, none⟩ = some (.int .i64 l[k].kind) ∧ w.cell? ⟨g, o + k * 4 + 1, none⟩ = some (.int .i64 l[k].member) ∧ w.cell? ⟨g, o + k * 4 + 2, none⟩ = some (.int .i64 l[k].number) ∧ w.cell? ⟨g, o + k * 4 + 3, none⟩ = some (.string (bs l[k].text)) := by
  obtain ⟨g, o, hv, hg, h3⟩ := h.at k hk
  exact ⟨g, o, hv, hg, h3 0 (by decide), h3 1 (by decide), h3 2 (by decide), h3 3 (by decide)⟩
theorem talk_of {B : World} (w : World) (v : Value) (es : List En) (hv : RowAt enE w 0 v es) (hst : Steps es) (hT : Tabs B) (hB : Ext B w) :
    Calls Tryd.prog 16 #[v] w fun e w' => ∃ b, e = .returned (.tuple #[.pointer (some ⟨b, 0, none⟩), .int .i64 0]) ∧ Upd NoB w w' (talkR b (fold es)) := by
  obtain ⟨a, c, rfl⟩ := hv.len
  have HV := Lib.hid hv
  have HST := Lib.hid hst
  have HT := Lib.hid hT
  have HB := Lib.hid hB
  have HM := Lib.hid (Mem.start0 w)
  clear hv hst hT hB
  go_enter Tryd.func16, Tryd.ntmps16
  go_wp2_with first
    | (refine wpList_build_wide 93 (v := .agg (T0.cells (.slice none 0 0)).toArray) rfl rfl (build_talk _) ?_)
    | ((with_reducible refine at_box 93 _ rfl ?_); refine boW 93 (vs := T0.cells (.slice none 0 0)) _ rfl rfl rfl HM.out ?_; intro w1 b M; replace HM := Lib.hid M; clear M)
  replace HM := Lib.hid (talkR_of HM.out (by with_reducible repeat first | exact ph | apply pt))
  go_loopw [14] (fun i wr => ∃ k : Nat, k ≤ es.length ∧ i = .int .i64 k ∧ Hid (Mem NoB w wr [talkR b (fold (es.take k))])) (fun i _ => es.length - (intOf i).toNat)
  case atStart => exact ⟨0, Nat.zero_le _, rfl, HM⟩
  case round =>
    clear HM
    obtain ⟨k, hk, rfl, HM⟩ := hrel
    by_cases hlt : k < es.length
    · obtain ⟨g, o, rfl, hg, d0, d1, d2, d3⟩ := en_4 (HV.out.ext HM.out.extTo) k hlt
      have hso := HST.out.2 k hlt
      have h4 := HST.out.1
      have hsl : (fold (es.take k)).slot = (k : Int) := by rw [fold_slot, List.length_take]; omega
      have hln : (fold (es.take k)).l.length = k := by rw [fold_len, List.length_take]; omega
      have hnx : fold (es.take (k + 1)) = (fold (es.take k)).put es[k] := by rw [List.take_succ_eq_append_getElem hlt, fold_snoc]
      obtain ⟨e, he⟩ : ∃ e, es[k] = e := ⟨_, rfl⟩
      obtain ⟨T, hTe⟩ : ∃ T, fold (es.take k) = T := ⟨_, rfl⟩
      rw [he] at d0 d1 d2 d3 hso hnx
      rw [hTe] at HM hso hsl hln hnx
      have HSO := Lib.hid hso
      have HSL := Lib.hid hsl
      have HLN := Lib.hid hln
      have HNX := Lib.hid hnx
      have HEV := Lib.hid (show e.v = .agg #[.int .i64 e.kind, .int .i64 e.member, .int .i64 e.number, .string (bs e.text)] from rfl)
      have g1 : (k : Int) < (es.length : Int) := by omega
      have g2 : ¬ (k : Int) < 0 := by omega
      have g3 : (k : Int) < 4096 := by omega
      clear hso hsl hln hnx he hTe h4
      have fM := HM.out.fa
      go_wp2_with fail
      all_goals clear fM
      rw [← HEV.out]
      refine nxt HM fun w3 M => ?_
      clear HM; have HM := M; clear M
      obtain ⟨A', hA', hAF, hS⟩ := (HM.out.pick (r := talkR b T) (by with_reducible repeat first | exact ph | apply pt)).step'
      have hx1 := HM.out.extTo
      have hap := apply_ok w3 b T e hA' HSO.out.kind HSO.out.en HSO.out.counts (by rw [HSL.out]; omega) (by rw [HSL.out]; omega) (by rw [HLN.out]; omega) (fun _ w1 h1 => check_chk B w1 HT.out (HB.out.ext (hx1.ext h1)) e.text (by have := HSO.out.text; omega))
      rw [HSL.out, HLN.out] at hap
      refine hap.mono ?_
      rintro r w4 ⟨F', rfl, hT', hK, hN⟩
      replace HM := Lib.hid (hS (talkR b (T.put e)) w4 ⟨F', hT', hK, hN⟩)
      clear hA' hAF hS hap hT' hK hN hx1
      clear A' F'
      unfold Ln.v
      dsimp only
      have fM := HM.out.fa
      go_wp2_with fail
      all_goals clear fM
      go_roundw
      case rel =>
        refine ⟨k + 1, by omega, by go_num, Lib.hid ?_⟩
        rw [HNX.out]
        apply Mem.mem
        · skip
          exact HM.out.to
        intro w8 M
        exact Mem.sub M (by repeat first | exact Sub.nil | refine Sub.cons (by with_reducible repeat first | exact ph | apply pt) ?_)
      case measure => simp [intOf]; omega
    · obtain rfl : k = es.length := by omega
      rw [List.take_length] at HM
      clear hlt hk
      have fM := HM.out.fa
      go_wp2_with fail
      all_goals clear fM
      go_ret2
      exact ⟨b, rfl, (HM.out.pick (r := talkR b (fold es)) (by with_reducible repeat first | exact ph | apply pt)).upd⟩
end Go.Proofs.YthhdgjofagdjeaaDoor
end
section
/- What is counted, in plain terms: what places told and members heard are pieces of the whole; the whole is the talk of its own entries. No program's function is named here. -/
set_option linter.unusedVariables false
set_option linter.unusedSimpArgs false
set_option maxHeartbeats 1000000
set_option maxRecDepth 10000
namespace Go.Proofs.YthhdgjofagdjeaaDoor
open Go.RowKit
/-- l stands in W from n on -/
def Piece (W : List En) (n : Int) (l : List En) : Prop := 0 ≤ n ∧ n + l.length ≤ W.length ∧ ∀ i, i < l.length → W[n.toNat + i]? = l[i]?
theorem Piece.mono {W : List En} {n : Int} {l : List En} (h : Piece W n l) (r : List En) : Piece (W ++ r) n l := by
  obtain ⟨a, b, c⟩ := h
  refine ⟨a, by rw [List.length_append]; omega, fun i hi => ?_⟩
  rw [List.getElem?_append_left (by omega)]
  exact c i hi
theorem Piece.snoc {W : List En} {n : Int} {l : List En} {e : En} (h : Piece W n l) (he : W[(n + l.length).toNat]? = some e) : Piece W n (l ++ [e]) := by
  obtain ⟨a, b, c⟩ := h
  obtain ⟨hlt, -⟩ := List.getElem?_eq_some_iff.1 he
  refine ⟨a, by rw [List.length_append]; simp; omega, fun i hi => ?_⟩
  by_cases h1 : i < l.length
  · rw [List.getElem?_append_left h1]; exact c i h1
  · have e1 : i = l.length := by simp at hi; omega
    subst e1
    rw [List.getElem?_append_right (Nat.le_refl _), show n.toNat + l.length = (n + l.length).toNat by omega, he]
    simp
theorem Piece.nil {W : List En} {n : Int} (h0 : 0 ≤ n) (h1 : n ≤ W.length) : Piece W n [] := ⟨h0, by simpa using h1, fun i hi => by simp at hi⟩
structure CS where
  tl : List (List En)
  hl : List (List En)
  fr : List Int
def cStep (J : JA) (x : Sn) (s : CS) : CS :=
  if (seeR J x).2 = 0 then
    (if x.kind = 2 then { s with tl := s.tl.set x.who.toNat (s.tl.getD x.who.toNat [] ++ [x.e]) }
     else if x.kind = 3 then { s with tl := s.tl.set x.who.toNat [] }
     else if x.kind = 4 then (if s.hl.getD x.who.toNat [] = [] then { s with fr := s.fr.set x.who.toNat x.index } else s)
     else if x.kind = 5 then { s with hl := s.hl.set x.who.toNat (s.hl.getD x.who.toNat [] ++ [x.e]), fr := if s.hl.getD x.who.toNat [] = [] then s.fr.set x.who.toNat x.index else s.fr }
     else if x.kind = 6 then { s with hl := s.hl.set x.who.toNat [] } else s)
  else s
def W (J : JA) : List En := J.T.l.map (·.e)
structure Inv (J : JA) (s : CS) : Prop where
  l9 : J.told.length = 9
  l16 : J.next.length = 16
  n3 : J.n = 3
  m4 : J.m = 4
  tl3 : s.tl.length = 3
  hl4 : s.hl.length = 4
  fr4 : s.fr.length = 4
  steps : ∃ es, J.T = fold es ∧ Steps es
  told : ∀ p : Nat, p < 3 → Piece (W J) (J.told.getD p 0 - (s.tl.getD p []).length) (s.tl.getD p [])
  heard : ∀ m : Nat, m < 4 → s.hl.getD m [] ≠ [] → Piece (W J) (s.fr.getD m 0) (s.hl.getD m []) ∧ J.next.getD m 0 = s.fr.getD m 0 + (s.hl.getD m []).length
theorem getD_set {α : Type} (l : List α) (p q : Nat) (v d : α) (hp : p < l.length) : (l.set p v).getD q d = if p = q then v else l.getD q d := by
  by_cases h : p = q
  · subst h; simp [hp]
  · simp [h]
theorem may_who {J : JA} {x : Sn} (hm : mayE J x = 0) : 0 ≤ x.who ∧ x.kind ≠ 0 ∧ (x.kind = 2 ∨ x.kind = 3 → x.who < J.n ∧ 0 ≤ x.index) ∧ (x.kind = 1 ∨ x.kind = 4 ∨ x.kind = 5 ∨ x.kind = 6 → x.who < J.m) ∧ (x.kind = 4 ∨ x.kind = 5 → 0 ≤ x.index) ∧ (x.kind = 2 → enB x.e = true) ∧ (x.kind = 1 ∨ x.kind = 2 ∨ x.kind = 3 ∨ x.kind = 4 ∨ x.kind = 5 ∨ x.kind = 6) := by
  obtain ⟨kind, who, index, e⟩ := x
  by_cases hk : 1 ≤ kind ∧ kind ≤ 6
  case neg => rw [mayE_none hk] at hm; cases hm
  obtain rfl | rfl | rfl | rfl | rfl | rfl : kind = 1 ∨ kind = 2 ∨ kind = 3 ∨ kind = 4 ∨ kind = 5 ∨ kind = 6 := by omega
  all_goals
    simp [mayE, kindF] at hm ⊢
    repeat' split at hm
    all_goals first | (cases hm; done) | (simp_all; done) | (simp_all; omega) | omega
theorem see_zero {J : JA} {x : Sn} (h : (seeR J x).2 = 0) : mayE J x = 0 ∧ (kindsR J x).2 = 0 ∧ (seeR J x).1 = (kindsR J x).1 := by
  unfold seeR at h ⊢
  split at h
  · rename_i hm
    split at h
    · rename_i hk
      rw [if_pos hm, if_pos hk]
      exact ⟨hm, hk, rfl⟩
    · rename_i hk; exact absurd h hk
  · rename_i hm; exact absurd h hm
theorem has_at {l : List Ln} {i : Int} {e : En} (h : hasB l i e = true) : (l.map (·.e))[i.toNat]? = some e := by
  unfold hasB at h
  rw [Bool.and_eq_true] at h
  have := of_decide_eq_true h.2
  rw [List.getElem?_map]; exact this
theorem seeR_nm' (J : JA) (x : Sn) : (seeR J x).1.n = J.n ∧ (seeR J x).1.m = J.m := by
  have hk : (kindsR J x).1.n = J.n ∧ (kindsR J x).1.m = J.m := by
    unfold kindsR putR lineR backR beganR toldR wentR JA.putIn
    repeat' split
    all_goals exact ⟨rfl, rfl⟩
  unfold seeR
  split
  · split
    · exact hk
    · exact hk
  · exact ⟨rfl, rfl⟩
theorem Inv.same {J Z : JA} {s : CS} (h : Inv J s) (hT : Z.T = J.T) (h1 : Z.told = J.told) (h2 : Z.next = J.next) (h3 : Z.n = J.n) (h4 : Z.m = J.m) : Inv Z s := by
  obtain ⟨a1, a2, a3, a4, a5, a6, a7, a8, a9, a10⟩ := h
  have hW : W Z = W J := by unfold W; rw [hT]
  exact ⟨by rw [h1]; exact a1, by rw [h2]; exact a2, by rw [h3]; exact a3, by rw [h4]; exact a4, a5, a6, a7, by rw [hT]; exact a8, by rw [hW, h1]; exact a9, by rw [hW, h2]; exact a10⟩
theorem inv_step (J : JA) (x : Sn) (s : CS) (h : Inv J s) (hok : OkJ J) (hT : J.T.Ok) (hI : I64 x.e.kind) (ht : x.e.text.length ≤ 500000) : Inv (seeR J x).1 (cStep J x s) := by
  by_cases h0 : (seeR J x).2 = 0
  case neg =>
    have e1 : cStep J x s = s := by unfold cStep; rw [if_neg h0]
    rw [e1]
    have key : (seeR J x).1.T = J.T ∧ (seeR J x).1.told = J.told ∧ (seeR J x).1.next = J.next := by
      unfold seeR at h0 ⊢
      split
      · rename_i hm
        rw [if_pos hm] at h0
        split
        · rename_i hk; rw [if_pos hk] at h0; exact absurd rfl h0
        · rename_i hk; rw [kindsR_bad J x hk]; exact ⟨rfl, rfl, rfl⟩
      · exact ⟨rfl, rfl, rfl⟩
    exact h.same key.1 key.2.1 key.2.2 (seeR_nm' J x).1 (seeR_nm' J x).2
  obtain ⟨hm, hk, he⟩ := see_zero h0
  obtain ⟨w0, -, wp, wm, wi, wen, wk⟩ := may_who hm
  rw [he]
  unfold cStep
  rw [if_pos h0]
  clear h0 he hm
  obtain ⟨kind, who, index, e⟩ := x
  obtain ⟨p, rfl⟩ : ∃ p : Nat, who = p := ⟨who.toNat, by dsimp only at w0; omega⟩
  dsimp only at wp wm wi wk wen hI ht hk ⊢
  obtain ⟨a1, a2, a3, a4, a5, a6, a7, a8, a9, a10⟩ := h
  rw [show ((p : Int)).toNat = p from rfl]
  rw [a3] at wp
  rw [a4] at wm
  rcases wk with rfl | rfl | rfl | rfl | rfl | rfl
  · -- put
    have hq : kindsR J ⟨1, p, index, e⟩ = putR J p e := by simp [kindsR]
    rw [hq] at hk ⊢
    have e1 : (putR J p e).1 = J.putIn e := by unfold putR at hk ⊢; split; rfl; rename_i h; rw [if_neg h] at hk; cases hk
    rw [e1]
    simp only [show ¬ ((1 : Int) = 2) by decide, show ¬ ((1 : Int) = 3) by decide, show ¬ ((1 : Int) = 4) by decide, show ¬ ((1 : Int) = 5) by decide, show ¬ ((1 : Int) = 6) by decide, if_false]
    exact ⟨a1, a2, a3, a4, a5, a6, a7, a8, a9, a10⟩
  · -- line
    have hq : kindsR J ⟨2, p, index, e⟩ = lineR J p index e := by simp [kindsR]
    rw [hq] at hk ⊢
    rw [if_pos rfl]
    obtain ⟨hp, hix⟩ := wp (.inl rfl)
    have hp' : p < 3 := by omega
    have main : ∀ T : TA, (∃ es, T = fold es ∧ Steps es) → (∃ r, T.l.map (·.e) = W J ++ r) → (T.l.map (·.e))[index.toNat]? = some e → index = J.told.getD p 0 → Inv { J with T := T, told := J.told.set p (index + 1) } { s with tl := s.tl.set p (s.tl.getD p [] ++ [e]) } := by
      intro T hst ⟨r, hr⟩ he hi
      have hW : W { J with T := T, told := J.told.set p (index + 1) } = W J ++ r := hr
      refine ⟨by simpa using a1, a2, a3, a4, by simpa using a5, a6, a7, hst, fun q hq => ?_, fun m hm hne => ?_⟩
      · rw [hW]
        show Piece _ ((J.told.set p (index + 1)).getD q 0 - _) _
        rw [getD_set _ _ _ _ _ (by omega), getD_set _ _ _ _ _ (by omega)]
        have h9 := (a9 q hq).mono r
        split
        · rename_i hpq
          subst hpq
          rw [List.length_append]
          have e2 : index + 1 - ((s.tl.getD p []).length + [e].length : Nat) = J.told.getD p 0 - (s.tl.getD p []).length := by have : [e].length = 1 := rfl; omega
          rw [e2]
          refine h9.snoc ?_
          rw [show J.told.getD p 0 - ((s.tl.getD p []).length : Int) + (s.tl.getD p []).length = index by omega, ← hr]
          exact he
        · exact h9
      · rw [hW]
        exact ⟨(a10 m hm hne).1.mono r, (a10 m hm hne).2⟩
    unfold lineR at hk ⊢
    split
    · rename_i h; rw [if_pos h] at hk; cases hk
    rename_i hi
    rw [if_neg hi] at hk
    have hi' : index = J.told.getD p 0 := Classical.not_not.1 hi
    split
    · rename_i h1
      rw [if_pos h1] at hk
      split
      · rename_i h2
        have := main J.T a8 ⟨[], by unfold W; simp⟩ (has_at h2) hi'
        exact this
      · rename_i h2; rw [if_neg h2] at hk; cases hk
    · rename_i h1
      rw [if_neg h1] at hk
      split
      · rename_i h2; rw [if_pos h2] at hk; cases hk
      · rename_i h2
        rw [if_neg h2] at hk
        split
        · rename_i h3
          obtain ⟨h3, h4⟩ := h3
          rw [Bool.and_eq_true] at h4
          obtain ⟨es, hes, hst⟩ := a8
          have hle := hok.told p
          have hlen : J.T.l.length = es.length := by rw [hes, fold_len]
          refine main (J.T.put e) ⟨es ++ [e], by rw [fold_snoc, hes], hst.snoc ⟨h4.1, by rw [← hes]; exact h4.2, hI, ht⟩ (by rw [hes, fold_slot] at h3; omega)⟩ ⟨[e], put_e J.T e⟩ ?_ hi'
          rw [put_e, show index.toNat = (J.T.l.map (·.e)).length by rw [List.length_map]; omega, List.getElem?_append_right (Nat.le_refl _)]
          simp
        · rename_i h3; rw [if_neg h3] at hk; cases hk
  · -- back
    have hq : kindsR J ⟨3, p, index, e⟩ = backR J p index := by simp [kindsR]
    rw [hq] at hk ⊢
    rw [if_neg (by decide), if_pos rfl]
    obtain ⟨hp, hix⟩ := wp (.inr rfl)
    unfold backR at hk ⊢
    split
    · rename_i h; rw [if_pos h] at hk; cases hk
    rename_i h1
    rw [if_neg h1] at hk
    split
    · rename_i h; rw [if_pos h] at hk; cases hk
    rename_i h2
    refine ⟨by simpa using a1, a2, a3, a4, by simpa using a5, a6, a7, a8, fun q hq => ?_, a10⟩
    show Piece (W J) ((J.told.set p index).getD q 0 - _) _
    rw [getD_set _ _ _ _ _ (by omega), getD_set _ _ _ _ _ (by omega)]
    split
    · have : (W J).length = J.T.l.length := by unfold W; rw [List.length_map]
      exact Piece.nil (by simp; omega) (by simp; omega)
    · exact a9 q hq
  · -- began
    have hq : kindsR J ⟨4, p, index, e⟩ = beganR J p index := by simp [kindsR]
    rw [hq] at hk ⊢
    rw [if_neg (by decide), if_neg (by decide), if_pos rfl]
    have hp := wm (.inr (.inl rfl))
    have hp' : p < 4 := by omega
    have main : (J.next.getD p 0 < 0 ∨ J.next.getD p 0 = index) → Inv { J with next := J.next.set p index } (if s.hl.getD p [] = [] then { s with fr := s.fr.set p index } else s) := by
      intro hn
      by_cases hne : s.hl.getD p [] = []
      · rw [if_pos hne]
        refine ⟨a1, by simpa using a2, a3, a4, a5, a6, by simpa using a7, a8, a9, fun m hm hm' => ?_⟩
        have hpm : p ≠ m := fun h => hm' (by rw [← h]; exact hne)
        show Piece (W J) ((s.fr.set p index).getD m 0) _ ∧ (J.next.set p index).getD m 0 = (s.fr.set p index).getD m 0 + _
        rw [getD_set _ _ _ _ _ (by omega), getD_set _ _ _ _ _ (by omega), if_neg hpm, if_neg hpm]
        exact a10 m hm hm'
      · rw [if_neg hne]
        refine ⟨a1, by simpa using a2, a3, a4, a5, a6, a7, a8, a9, fun m hm hm' => ?_⟩
        show Piece (W J) (s.fr.getD m 0) _ ∧ (J.next.set p index).getD m 0 = _
        rw [getD_set _ _ _ _ _ (by omega)]
        refine ⟨(a10 m hm hm').1, ?_⟩
        split
        · rename_i hpm
          subst hpm
          have h1 := a10 p hp' hne
          have := h1.1.1
          rw [← h1.2]
          omega
        · exact (a10 m hm hm').2
    unfold beganR at hk ⊢
    split
    · rename_i h; rw [if_pos h] at hk; cases hk
    rename_i h1
    rw [if_neg h1] at hk
    split
    · rename_i h; rw [if_pos h] at hk; cases hk
    rename_i h2
    rw [if_neg h2] at hk
    split
    · rename_i h; rw [if_pos h] at hk; cases hk
    exact main (Classical.not_not.1 h1)
  · -- told
    have hq : kindsR J ⟨5, p, index, e⟩ = toldR J p index e := by simp [kindsR]
    rw [hq] at hk ⊢
    rw [if_neg (by decide), if_neg (by decide), if_neg (by decide), if_pos rfl]
    have hp := wm (.inr (.inr (.inl rfl)))
    have hix := wi (.inr rfl)
    have hp' : p < 4 := by omega
    unfold toldR at hk ⊢
    split
    · rename_i h; rw [if_pos h] at hk; cases hk
    rename_i h1
    rw [if_neg h1] at hk
    split
    · rename_i h; rw [if_pos h] at hk; cases hk
    rename_i h2
    rw [if_neg h2] at hk
    split
    · rename_i h; rw [if_pos h] at hk; cases hk
    rename_i h3
    have hi : index = J.next.getD p 0 := Classical.not_not.1 h1
    have hh : (W J)[index.toNat]? = some e := has_at (by simpa using h3)
    have hlt : index < (J.T.l.length : Int) := Classical.not_not.1 h2
    have hwl : (W J).length = J.T.l.length := by unfold W; rw [List.length_map]
    refine ⟨a1, by simpa using a2, a3, a4, a5, by simpa using a6, by dsimp only; split <;> simpa using a7, a8, a9, fun m hm hm' => ?_⟩
    show Piece (W J) ((if s.hl.getD p [] = [] then s.fr.set p index else s.fr).getD m 0) ((s.hl.set p (s.hl.getD p [] ++ [e])).getD m []) ∧ (J.next.set p (index + 1)).getD m 0 = _ + _
    have hm'' : (s.hl.set p (s.hl.getD p [] ++ [e])).getD m [] ≠ [] := hm'
    rw [getD_set _ _ _ _ _ (by omega)] at hm'' ⊢
    rw [getD_set _ _ _ _ _ (by omega)]
    by_cases hpm : p = m
    · subst hpm
      rw [if_pos rfl, if_pos rfl]
      by_cases hne : s.hl.getD p [] = []
      · rw [if_pos hne, getD_set _ _ _ _ _ (by omega), if_pos rfl, hne]
        refine ⟨?_, by simp⟩
        have := (Piece.nil (W := W J) (n := index) hix (by omega)).snoc (e := e) (by simpa using hh)
        exact this
      · rw [if_neg hne]
        obtain ⟨b1, b2⟩ := a10 p hp' hne
        refine ⟨b1.snoc ?_, ?_⟩
        · rw [← b2, ← hi]; exact hh
        · show index + 1 = s.fr.getD p 0 + ((s.hl.getD p [] ++ [e]).length : Int)
          rw [List.length_append]
          have : [e].length = 1 := rfl
          omega
    · rw [if_neg hpm] at hm'' ⊢
      rw [if_neg hpm]
      have := a10 m hm hm''
      split
      · rw [getD_set _ _ _ _ _ (by omega), if_neg hpm]; exact this
      · exact this
  · -- went
    have hq : kindsR J ⟨6, p, index, e⟩ = wentR J p index := by simp [kindsR]
    rw [hq] at hk ⊢
    rw [if_neg (by decide), if_neg (by decide), if_neg (by decide), if_neg (by decide), if_pos rfl]
    have hp := wm (.inr (.inr (.inr rfl)))
    unfold wentR at hk ⊢
    split
    · refine ⟨a1, by simpa using a2, a3, a4, a5, by simpa using a6, a7, a8, a9, fun m hm hm' => ?_⟩
      have hm'' : (s.hl.set p []).getD m [] ≠ [] := hm'
      show Piece (W J) (s.fr.getD m 0) ((s.hl.set p []).getD m []) ∧ (J.next.set p index).getD m 0 = _ + (((s.hl.set p []).getD m []).length : Int)
      rw [getD_set _ _ _ _ _ (by omega)] at hm'' ⊢
      rw [getD_set _ _ _ _ _ (by omega)]
      by_cases hpm : p = m
      · rw [if_pos hpm] at hm''; exact absurd rfl hm''
      · rw [if_neg hpm] at hm'' ⊢
        rw [if_neg hpm]
        exact a10 m hm hm''
    · rename_i h; rw [if_neg h] at hk; cases hk
theorem inv_0 : Inv (J0 3 4) ⟨[[], [], []], [[], [], [], []], [0, 0, 0, 0]⟩ := by
  refine ⟨rfl, rfl, rfl, rfl, rfl, rfl, rfl, ⟨[], rfl, by simp [Steps]⟩, fun p hp => ?_, fun m hm hne => ?_⟩
  · obtain rfl | rfl | rfl : p = 0 ∨ p = 1 ∨ p = 2 := by omega
    all_goals exact Piece.nil (by decide) (by decide)
  · obtain rfl | rfl | rfl | rfl : m = 0 ∨ m = 1 ∨ m = 2 ∨ m = 3 := by omega
    all_goals exact absurd rfl hne
end Go.Proofs.YthhdgjofagdjeaaDoor
end
