/- Texts VI, WA, YA, YB, one behind the other. Conditions: as each says. -/
import Derived.Test.YthhdgjofagdjeaaGreatDoorPkL
import Derived.BigFrameIn
import Derived.BigGuardIn
section
/- The document's judge sees a thing, of whatever kind; New. Condition: the judge reads as 'RefAt' says, and is such as came by things seen. -/
set_option linter.unusedVariables false
set_option linter.unusedSimpArgs false
set_option maxHeartbeats 4000000
set_option maxRecDepth 100000
namespace Go.Proofs.YthhdgjofagdjeaaGreatDoor
open Go.RowKit Go.Shelf
theorem RefAt.setPut {w : World} {A : Nat → Prop} {J : JA} {cs : List Value} (h : RefAt w A J cs) (v : Value) (l : List En) (hv : RowAt enE w 0 v l) (hA : ∀ k, Own v k → A k) : RefAt w A { J with put := l } (cs.set 29 v) :=
  let ⟨vl, vp, h1, h2, h3, h4, h5, h6, h7⟩ := h
  ⟨vl, v, by rw [h1, J.rset_put vl vp h6 h7 v l], h2, h3, hv, hA, h6, h7⟩
theorem rsee_1 {A : Nat → Prop} (w : World) (J : JA) (cs : List Value) (p : Int) (index : Int) (e : En) (h : RefAt w A J cs) (hA : ∀ k, A k → k < w.heap.size) (hok : OkR J) (hpl : J.put.length ≤ 4096) (ht : e.text.length ≤ 500000) (hm : mayE J ⟨1, p, index, e⟩ = 0) : SeeC w A J cs ⟨1, p, index, e⟩ := by
  have hlt0 : ∀ k, A k → k < w.heap.size := hA
  obtain ⟨al, cl, ap, cp, hlen, hone, -, -, -, c3, cT, -, c29, c30, hvl, hvp⟩ := h.open
  have HR := Lib.hid h
  have HV := Lib.hid hvp
  have HLEN := Lib.hid hlen
  have HONE := Lib.hid hone
  have HWD : Wd _ _ := ⟨HLEN.out, HONE.out⟩
  have HOK := Lib.hid hok
  have HTX := Lib.hid ht
  have HLT := Lib.hid hlt0
  have HM := Lib.hid (Mem.start0 w)
  have HPL := Lib.hid hpl
  clear hpl
  have hkr : kindsR J ⟨1, p, index, e⟩ = putR J p e := by simp [kindsR]
  by_cases h1 : e.member = p
  case neg =>
    have hq : putR J p e = (J, 406) := by unfold putR; rw [if_neg h1]
    have HQ := Lib.hid (seeR_bad hm (by rw [hkr, hq]; exact (by decide : (406 : Int) ≠ 0)))
    rw [hkr, hq] at HQ
    have h1' : (e.member != p) = true := by simpa using h1
    clear h1 hkr hq c29
    unfold SeeC
    have HXV := Lib.hid (show (⟨1, p, index, e⟩ : Sn).v = .agg #[.int .i64 1, .int .i64 p, .int .i64 index, .int .i64 e.kind, .int .i64 e.member, .int .i64 e.number, .string (bs e.text)] from rfl)
    have HEV := Lib.hid (show e.v = .agg #[.int .i64 e.kind, .int .i64 e.member, .int .i64 e.number, .string (bs e.text)] from rfl)
    rw [HXV.out]
    have HMM := Lib.hid hm
    clear h hA hok ht hlt0 hlen hone cT hvl hvp hm
    go_enter Tryz.func17, Tryz.ntmps17
    have fM := HM.out.fa
    go_wp2_with (first
      | ((with_reducible refine at_list ?_); first
        | ((with_reducible refine at_load 37 _ rfl ?_); refine ldW 37 _ rfl rfl rfl HM.out Tryz.underlying37 rfl infoRJ ?_)
        | ((first
          | ((with_reducible refine at_store 37 _ _ rfl ?_); refine stW 37 _ _ rfl rfl rfl rfl HM.out infoRJ ?_; intro w9 M)
          | ((with_reducible refine at_box 37 _ rfl ?_); refine boW 37 _ rfl rfl rfl HM.out ?_; intro w9 n9 M)
          | ((with_reducible refine at_alloc 37 rfl ?_); refine alW 37 rfl rfl (zeroRJ _) HM.out ?_; intro w9 n9 M)); replace HM := Lib.hid M; clear M; clear fM; have fM := HM.out.fa)))
    all_goals clear fM
    refine nxt HM fun w1 M => ?_
    clear HM; have HM := M; clear M
    rw [← HXV.out]
    refine (rmay_any w1 J cs ⟨1, p, index, e⟩ (HR.out.ext HM.out.extTo) HTX.out).mono ?_
    rintro r w2 ⟨rfl, hE⟩
    rw [HMM.out]
    replace HM := Lib.hid (HM.out.ext hE)
    clear hE
    have fM := HM.out.fa
    go_wp2_with (first
      | ((with_reducible refine at_list ?_); first
        | ((with_reducible refine at_load 37 _ rfl ?_); refine ldW 37 _ rfl rfl rfl HM.out Tryz.underlying37 rfl infoRJ ?_)
        | ((first
          | ((with_reducible refine at_store 37 _ _ rfl ?_); refine stW 37 _ _ rfl rfl rfl rfl HM.out infoRJ ?_; intro w9 M)
          | ((with_reducible refine at_box 37 _ rfl ?_); refine boW 37 _ rfl rfl rfl HM.out ?_; intro w9 n9 M)
          | ((with_reducible refine at_alloc 37 rfl ?_); refine alW 37 rfl rfl (zeroRJ _) HM.out ?_; intro w9 n9 M)); replace HM := Lib.hid M; clear M; clear fM; have fM := HM.out.fa)))
    all_goals clear fM
    refine nxt HM fun w5 M => ?_
    clear HM; have HM := M; clear M
    refine bodyPost_ret (rtW 37 Tryz.results17 _ rfl HM.out Tryz.underlying37 rfl infoRJ) rfl ?_
    rw [HQ.out]
    have HE5 := HM.out.extTo
    exact ⟨_, rfl, ((HR.out.setBroken (wrap64 (J.broken + 1))).ext HE5).mono (fun k hk => .inl hk), HE5⟩
  have hq : putR J p e = (J.putIn e, 0) := by unfold putR; rw [if_pos h1]
  have HQ := Lib.hid (seeR_ok hm (by rw [hkr, hq]))
  rw [hkr, hq] at HQ
  have h1' : (e.member != p) = false := by simpa using h1
  clear h1 hkr hq
  unfold SeeC
  have HXV := Lib.hid (show (⟨1, p, index, e⟩ : Sn).v = .agg #[.int .i64 1, .int .i64 p, .int .i64 index, .int .i64 e.kind, .int .i64 e.member, .int .i64 e.number, .string (bs e.text)] from rfl)
  have HEV := Lib.hid (show e.v = .agg #[.int .i64 e.kind, .int .i64 e.member, .int .i64 e.number, .string (bs e.text)] from rfl)
  rw [HXV.out]
  have HMM := Lib.hid hm
  clear h hA hok ht hlt0 hlen hone cT hvl hvp hm
  go_enter Tryz.func17, Tryz.ntmps17
  have fM := HM.out.fa
  go_wp2_with (first
    | ((with_reducible refine at_list ?_); first
      | ((with_reducible refine at_load 37 _ rfl ?_); refine ldW 37 _ rfl rfl rfl HM.out Tryz.underlying37 rfl infoRJ ?_)
      | ((first
        | ((with_reducible refine at_store 37 _ _ rfl ?_); refine stW 37 _ _ rfl rfl rfl rfl HM.out infoRJ ?_; intro w9 M)
        | ((with_reducible refine at_box 37 _ rfl ?_); refine boW 37 _ rfl rfl rfl HM.out ?_; intro w9 n9 M)
        | ((with_reducible refine at_alloc 37 rfl ?_); refine alW 37 rfl rfl (zeroRJ _) HM.out ?_; intro w9 n9 M)); replace HM := Lib.hid M; clear M; clear fM; have fM := HM.out.fa)))
  all_goals clear fM
  refine nxt HM fun w1 M => ?_
  clear HM; have HM := M; clear M
  rw [← HXV.out]
  refine (rmay_any w1 J cs ⟨1, p, index, e⟩ (HR.out.ext HM.out.extTo) HTX.out).mono ?_
  rintro r w2 ⟨rfl, hE⟩
  rw [HMM.out]
  replace HM := Lib.hid (HM.out.ext hE)
  clear hE
  have fM := HM.out.fa
  go_wp2_with (first
    | ((with_reducible refine at_list ?_); first
      | ((with_reducible refine at_load 37 _ rfl ?_); refine ldW 37 _ rfl rfl rfl HM.out Tryz.underlying37 rfl infoRJ ?_)
      | ((first
        | ((with_reducible refine at_store 37 _ _ rfl ?_); refine stW 37 _ _ rfl rfl rfl rfl HM.out infoRJ ?_; intro w9 M)
        | ((with_reducible refine at_box 37 _ rfl ?_); refine boW 37 _ rfl rfl rfl HM.out ?_; intro w9 n9 M)
        | ((with_reducible refine at_alloc 37 rfl ?_); refine alW 37 rfl rfl (zeroRJ _) HM.out ?_; intro w9 n9 M)); replace HM := Lib.hid M; clear M; clear fM; have fM := HM.out.fa)))
  all_goals clear fM
  refine nxt HM fun w3 M => ?_
  clear HM; have HM := M; clear M
  rw [← HEV.out]
  refine (rput_any w3 J cs e (HR.out.ext HM.out.extTo) HOK.out.puts).mono ?_
  rintro r w4 ⟨rfl, hE⟩
  replace HM := Lib.hid (HM.out.ext hE)
  clear hE
  by_cases h2 : e ∈ J.put
  · have hq : J.putIn e = J := by unfold JA.putIn; rw [if_pos h2]
    rw [hq] at HQ
    rw [decide_eq_true h2]
    clear hq h2 c29
    have fM := HM.out.fa
    go_wp2_with (first
      | ((with_reducible refine at_list ?_); first
        | ((with_reducible refine at_load 37 _ rfl ?_); refine ldW 37 _ rfl rfl rfl HM.out Tryz.underlying37 rfl infoRJ ?_)
        | ((first
          | ((with_reducible refine at_store 37 _ _ rfl ?_); refine stW 37 _ _ rfl rfl rfl rfl HM.out infoRJ ?_; intro w9 M)
          | ((with_reducible refine at_box 37 _ rfl ?_); refine boW 37 _ rfl rfl rfl HM.out ?_; intro w9 n9 M)
          | ((with_reducible refine at_alloc 37 rfl ?_); refine alW 37 rfl rfl (zeroRJ _) HM.out ?_; intro w9 n9 M)); replace HM := Lib.hid M; clear M; clear fM; have fM := HM.out.fa)))
    all_goals clear fM
    refine bodyPost_ret (rtW 37 Tryz.results17 _ rfl HM.out Tryz.underlying37 rfl infoRJ) rfl ?_
    rw [HQ.out]
    refine ⟨_, rfl, ((HR.out).ext ?_).mono (fun k hk => .inl hk), ?_⟩ <;> (apply Mem.extTo; exact HM.out.to)
  have hq : J.putIn e = { J with put := J.put ++ [e] } := by unfold JA.putIn; rw [if_neg h2]
  rw [hq] at HQ
  rw [decide_eq_false h2]
  clear hq h2
  have fM := HM.out.fa
  go_wp2_with (first
    | ((with_reducible refine at_list ?_); first
      | ((with_reducible refine at_load 37 _ rfl ?_); refine ldW 37 _ rfl rfl rfl HM.out Tryz.underlying37 rfl infoRJ ?_)
      | ((first
        | ((with_reducible refine at_store 37 _ _ rfl ?_); refine stW 37 _ _ rfl rfl rfl rfl HM.out infoRJ ?_; intro w9 M)
        | ((with_reducible refine at_box 37 _ rfl ?_); refine boW 37 _ rfl rfl rfl HM.out ?_; intro w9 n9 M)
        | ((with_reducible refine at_alloc 37 rfl ?_); refine alW 37 rfl rfl (zeroRJ _) HM.out ?_; intro w9 n9 M)); replace HM := Lib.hid M; clear M; clear fM; have fM := HM.out.fa)))
  all_goals clear fM
  refine nxt HM fun w4 M => ?_
  clear HM; have HM := M; clear M
  have HE4 := Lib.hid HM.out.extTo
  have HV4 := Lib.hid (HV.out.ext HM.out.extTo)
  have fM := HM.out.fa
  have hE0 : Keeps NoB w4 w4.drew := (Keeps.refl _ _).drew
  refine wp_region_forks [2, 5] [0, 3, 6, 7, 8, 9] (ClsE w4) (by kernel_rfl) ?_
  refine any_seg (L := #[false, true, true, false, true, true, false, false, false, false]) [(0, 1), (1, 2), (0, 4), (1, 5)] 6 (by kernel_rfl) (fun _ _ _ d _ h => by cases d <;> exact h) (by kernel_rfl) (by kernel_rfl) rfl rfl (ClsE.of (by repeat (first | assumption | exact Keeps.refl _ _ | refine Keeps.alloc ?_ _ | refine Keeps.setOne ?_ _ _ | refine Keeps.setCell ?_ _ _ (.inl (by first | rfl | exact .inl rfl | exact .inr rfl | omega)) | refine Keeps.drew ?_))) ?_; simp only [planL, nL]
  refine pR (v := ?_) rfl (fun W => ?_) ?_; rotate_left; (go_simp <;> with_reducible rfl); simp only [nP]
  refine pL (v := ?_) rfl (fun W => ?_) ?_; rotate_left; (go_simp <;> with_reducible rfl); simp only [nP]
  refine pR (v := ?_) rfl (fun W => ?_) ?_; rotate_left; (go_simp <;> with_reducible rfl); simp only [nP]
  refine pL (v := ?_) rfl (fun W => ?_) ?_; rotate_left; (go_simp <;> with_reducible rfl); simp only [nP]
  refine plan_nil ?_
  refine any_fork 0 6 (by kernel_rfl) (by kernel_rfl) rfl rfl rfl rfl (fun K hK => ?_) (fun K hK => ?_)
  · skip
    go_wp2_with fail
    refine ⟨ClsE.of (by repeat (first | assumption | exact Keeps.refl _ _ | refine Keeps.alloc ?_ _ | refine Keeps.setOne ?_ _ _ | refine Keeps.setCell ?_ _ _ (.inl (by first | rfl | exact .inl rfl | exact .inr rfl | omega)) | refine Keeps.drew ?_)), ?_⟩; try simp only [nP]
    refine any_seg (L := #[true, true, true, false, true, true, false, false, false, false]) [] 5 (by kernel_rfl) (fun _ _ _ d _ h => by cases d <;> exact h) (by kernel_rfl) (by kernel_rfl) rfl rfl (ClsE.of (by repeat (first | assumption | exact Keeps.refl _ _ | refine Keeps.alloc ?_ _ | refine Keeps.setOne ?_ _ _ | refine Keeps.setCell ?_ _ _ (.inl (by first | rfl | exact .inl rfl | exact .inr rfl | omega)) | refine Keeps.drew ?_))) ?_; simp only [planL, nL]
    refine plan_nil ?_
    refine any_fork 3 6 (by kernel_rfl) (by kernel_rfl) rfl rfl rfl rfl (fun K hK => ?_) (fun K hK => ?_)
    · skip
      refine Mem.oper (wr := w4) HM.out.to (by repeat (first | assumption | exact Keeps.refl _ _ | with_reducible apply Keeps.drew | with_reducible apply Keeps.alloc)) fun w5 M hE5 => ?_
      replace HM := Lib.hid M
      clear M
      obtain ⟨v6, w6, hr, hm, hE6, hn6⟩ := Mem.copyEns 35 (HM.out.pick (r := cellsR _ 54 []) (by with_reducible repeat first | exact ph | apply pt)) hE5 (by first | exact Nat.le_refl _ | omega) HV4.out HPL.out
      replace HM := Lib.hid hm
      have HN6 := Lib.hid hn6
      refine oper_append_ran _ _ hr rfl rfl rfl ?_
      clear hr hm hn6 hE5
      refine hK _ _ ⟨ClsE.of (by assumption), ?_⟩; clear hK K; try simp only [nP]
      refine any_end [(2, 6)] [7, 8, 9] (by kernel_rfl) (fun _ _ _ d _ h => by cases d <;> exact h) (by kernel_rfl) (by kernel_rfl) rfl rfl (ClsE.of (by repeat (first | assumption | exact Keeps.refl _ _ | refine Keeps.alloc ?_ _ | refine Keeps.setOne ?_ _ _ | refine Keeps.setCell ?_ _ _ (.inl (by first | rfl | exact .inl rfl | exact .inr rfl | omega)) | refine Keeps.drew ?_))) ?_; simp only [planL, nL]
      refine plan_does rfl (fun K hK => ?_)
      go_wp2_with fail
      refine ⟨ClsE.of (by repeat (first | assumption | exact Keeps.refl _ _ | refine Keeps.alloc ?_ _ | refine Keeps.setOne ?_ _ _ | refine Keeps.setCell ?_ _ _ (.inl (by first | rfl | exact .inl rfl | exact .inr rfl | omega)) | refine Keeps.drew ?_)), ?_⟩; try simp only [nP]
      refine plan_nil ?_; simp only [tailL, List.filterMap_cons, List.filterMap_nil, nL]; change wpList _ _ _ (_ :: _ :: _ :: []) _ _
      clear fM
      try clear hE6
      have fM := HM.out.fa
      go_wp2_with (at_builtin; refine standing ?_)
      all_goals clear fM
      refine nxt HM fun w7 M => ?_
      clear HM; have HM := M; clear M
      obtain ⟨Ahb, hb⟩ := HM.out.get (r := cellsR _ 54 [.int .i64 e.kind, .int .i64 e.member, .int .i64 e.number, .string (bs e.text)]) (by with_reducible repeat first | exact ph | apply pt)
      obtain ⟨v8, w8, hr, hm, -, hn8⟩ := Mem.addEn (c := 1) e 35 HM.out (by with_reducible repeat first | exact ph | apply pt) HM.out.extTo (fun k hk => Nat.le_trans HE4.out.size (HN6.out k hk)) hb.2.reads.1 HPL.out
      obtain ⟨l8, hl8⟩ : ∃ l8, J.put ++ [e] = l8 := ⟨_, rfl⟩
      rw [hl8] at hm
      have HL8 := Lib.hid hl8
      clear hl8
      obtain ⟨p8, c8, rfl⟩ := hm.fact (fun A h => row_len h)
      replace HM := Lib.hid hm
      refine ⟨?_⟩
      refine wpList_append_ran rfl _ _ hr rfl rfl rfl ?_
      clear hr hm hn8 hb
      try clear Ahb
      have fM := HM.out.fa
      go_wp2_with (first
        | ((with_reducible refine at_list ?_); first
          | ((with_reducible refine at_load 37 _ rfl ?_); refine ldW 37 _ rfl rfl rfl HM.out Tryz.underlying37 rfl infoRJ ?_)
          | ((first
            | ((with_reducible refine at_store 37 _ _ rfl ?_); refine stW 37 _ _ rfl rfl rfl rfl HM.out infoRJ ?_; intro w9 M)
            | ((with_reducible refine at_box 37 _ rfl ?_); refine boW 37 _ rfl rfl rfl HM.out ?_; intro w9 n9 M)
            | ((with_reducible refine at_alloc 37 rfl ?_); refine alW 37 rfl rfl (zeroRJ _) HM.out ?_; intro w9 n9 M)); replace HM := Lib.hid M; clear M; clear fM; have fM := HM.out.fa)))
      all_goals clear fM
      refine nxt HM fun w9 M => ?_
      clear HM; have HM := M; clear M
      have hU := (HM.out.pick (r := rowR enE (.slice p8 l8.length c8) l8) (by with_reducible repeat first | exact ph | apply pt)).upd.row
      refine bodyPost_ret (rtW 37 Tryz.results17 _ rfl HM.out Tryz.underlying37 rfl infoRJ) rfl ?_
      rw [HQ.out]
      rw [HL8.out]
      exact ⟨_, rfl, ((HR.out.ext hU.2).mono (fun k hk => Or.inl hk)).setPut _ l8 (hU.1.mono (Nat.zero_le _)) (fun k hk => .inr (Win.block hU.1 k hk).1), hU.2⟩
    · skip
      go_wp2_with fail
      refine ⟨ClsE.of (by repeat (first | assumption | exact Keeps.refl _ _ | refine Keeps.alloc ?_ _ | refine Keeps.setOne ?_ _ _ | refine Keeps.setCell ?_ _ _ (.inl (by first | rfl | exact .inl rfl | exact .inr rfl | omega)) | refine Keeps.drew ?_)), ?_⟩; try simp only [nP]
      refine any_end [(2, 3)] [7, 8, 9] (by kernel_rfl) (fun _ _ _ d _ h => by cases d <;> exact h) (by kernel_rfl) (by kernel_rfl) rfl rfl (ClsE.of (by repeat (first | assumption | exact Keeps.refl _ _ | refine Keeps.alloc ?_ _ | refine Keeps.setOne ?_ _ _ | refine Keeps.setCell ?_ _ _ (.inl (by first | rfl | exact .inl rfl | exact .inr rfl | omega)) | refine Keeps.drew ?_))) ?_; simp only [planL, nL]
      refine plan_does rfl (fun K hK => ?_)
      refine Mem.oper (wr := w4) HM.out.to (by repeat (first | assumption | exact Keeps.refl _ _ | with_reducible apply Keeps.drew | with_reducible apply Keeps.alloc)) fun w5 M hE5 => ?_
      replace HM := Lib.hid M
      clear M
      obtain ⟨v6, w6, hr, hm, hE6, hn6⟩ := Mem.copyEns 35 (HM.out.pick (r := cellsR _ 54 []) (by with_reducible repeat first | exact ph | apply pt)) hE5 (by first | exact Nat.le_refl _ | omega) HV4.out HPL.out
      replace HM := Lib.hid hm
      have HN6 := Lib.hid hn6
      refine oper_append_ran _ _ hr rfl rfl rfl ?_
      clear hr hm hn6 hE5
      refine hK _ _ ⟨ClsE.of (by assumption), ?_⟩; clear hK K; try simp only [nP]
      refine plan_nil ?_; simp only [tailL, List.filterMap_cons, List.filterMap_nil, nL]; change wpList _ _ _ (_ :: _ :: _ :: []) _ _
      clear fM
      try clear hE6
      have fM := HM.out.fa
      go_wp2_with (at_builtin; refine standing ?_)
      all_goals clear fM
      refine nxt HM fun w7 M => ?_
      clear HM; have HM := M; clear M
      obtain ⟨Ahb, hb⟩ := HM.out.get (r := cellsR _ 54 [.int .i64 e.kind, .int .i64 e.member, .int .i64 e.number, .string (bs e.text)]) (by with_reducible repeat first | exact ph | apply pt)
      obtain ⟨v8, w8, hr, hm, -, hn8⟩ := Mem.addEn (c := 1) e 35 HM.out (by with_reducible repeat first | exact ph | apply pt) HM.out.extTo (fun k hk => Nat.le_trans HE4.out.size (HN6.out k hk)) hb.2.reads.1 HPL.out
      obtain ⟨l8, hl8⟩ : ∃ l8, J.put ++ [e] = l8 := ⟨_, rfl⟩
      rw [hl8] at hm
      have HL8 := Lib.hid hl8
      clear hl8
      obtain ⟨p8, c8, rfl⟩ := hm.fact (fun A h => row_len h)
      replace HM := Lib.hid hm
      refine ⟨?_⟩
      refine wpList_append_ran rfl _ _ hr rfl rfl rfl ?_
      clear hr hm hn8 hb
      try clear Ahb
      have fM := HM.out.fa
      go_wp2_with (first
        | ((with_reducible refine at_list ?_); first
          | ((with_reducible refine at_load 37 _ rfl ?_); refine ldW 37 _ rfl rfl rfl HM.out Tryz.underlying37 rfl infoRJ ?_)
          | ((first
            | ((with_reducible refine at_store 37 _ _ rfl ?_); refine stW 37 _ _ rfl rfl rfl rfl HM.out infoRJ ?_; intro w9 M)
            | ((with_reducible refine at_box 37 _ rfl ?_); refine boW 37 _ rfl rfl rfl HM.out ?_; intro w9 n9 M)
            | ((with_reducible refine at_alloc 37 rfl ?_); refine alW 37 rfl rfl (zeroRJ _) HM.out ?_; intro w9 n9 M)); replace HM := Lib.hid M; clear M; clear fM; have fM := HM.out.fa)))
      all_goals clear fM
      refine nxt HM fun w9 M => ?_
      clear HM; have HM := M; clear M
      have hU := (HM.out.pick (r := rowR enE (.slice p8 l8.length c8) l8) (by with_reducible repeat first | exact ph | apply pt)).upd.row
      refine bodyPost_ret (rtW 37 Tryz.results17 _ rfl HM.out Tryz.underlying37 rfl infoRJ) rfl ?_
      rw [HQ.out]
      rw [HL8.out]
      exact ⟨_, rfl, ((HR.out.ext hU.2).mono (fun k hk => Or.inl hk)).setPut _ l8 (hU.1.mono (Nat.zero_le _)) (fun k hk => .inr (Win.block hU.1 k hk).1), hU.2⟩
  · skip
    go_wp2_with fail
    refine ⟨ClsE.of (by repeat (first | assumption | exact Keeps.refl _ _ | refine Keeps.alloc ?_ _ | refine Keeps.setOne ?_ _ _ | refine Keeps.setCell ?_ _ _ (.inl (by first | rfl | exact .inl rfl | exact .inr rfl | omega)) | refine Keeps.drew ?_)), ?_⟩; try simp only [nP]
    refine any_end [(2, 0), (2, 3)] [7, 8, 9] (by kernel_rfl) (fun _ _ _ d _ h => by cases d <;> exact h) (by kernel_rfl) (by kernel_rfl) rfl rfl (ClsE.of (by repeat (first | assumption | exact Keeps.refl _ _ | refine Keeps.alloc ?_ _ | refine Keeps.setOne ?_ _ _ | refine Keeps.setCell ?_ _ _ (.inl (by first | rfl | exact .inl rfl | exact .inr rfl | omega)) | refine Keeps.drew ?_))) ?_; simp only [planL, nL]
    refine plan_does rfl (fun K hK => ?_)
    go_wp2_with fail
    refine ⟨ClsE.of (by repeat (first | assumption | exact Keeps.refl _ _ | refine Keeps.alloc ?_ _ | refine Keeps.setOne ?_ _ _ | refine Keeps.setCell ?_ _ _ (.inl (by first | rfl | exact .inl rfl | exact .inr rfl | omega)) | refine Keeps.drew ?_)), ?_⟩; try simp only [nP]
    refine plan_does rfl (fun K hK => ?_)
    refine Mem.oper (wr := w4) HM.out.to (by repeat (first | assumption | exact Keeps.refl _ _ | with_reducible apply Keeps.drew | with_reducible apply Keeps.alloc)) fun w5 M hE5 => ?_
    replace HM := Lib.hid M
    clear M
    obtain ⟨v6, w6, hr, hm, hE6, hn6⟩ := Mem.copyEns 35 (HM.out.pick (r := cellsR _ 54 []) (by with_reducible repeat first | exact ph | apply pt)) hE5 (by first | exact Nat.le_refl _ | omega) HV4.out HPL.out
    replace HM := Lib.hid hm
    have HN6 := Lib.hid hn6
    refine oper_append_ran _ _ hr rfl rfl rfl ?_
    clear hr hm hn6 hE5
    refine hK _ _ ⟨ClsE.of (by assumption), ?_⟩; clear hK K; try simp only [nP]
    refine plan_nil ?_; simp only [tailL, List.filterMap_cons, List.filterMap_nil, nL]; change wpList _ _ _ (_ :: _ :: _ :: []) _ _
    clear fM
    try clear hE6
    have fM := HM.out.fa
    go_wp2_with (at_builtin; refine standing ?_)
    all_goals clear fM
    refine nxt HM fun w7 M => ?_
    clear HM; have HM := M; clear M
    obtain ⟨Ahb, hb⟩ := HM.out.get (r := cellsR _ 54 [.int .i64 e.kind, .int .i64 e.member, .int .i64 e.number, .string (bs e.text)]) (by with_reducible repeat first | exact ph | apply pt)
    obtain ⟨v8, w8, hr, hm, -, hn8⟩ := Mem.addEn (c := 1) e 35 HM.out (by with_reducible repeat first | exact ph | apply pt) HM.out.extTo (fun k hk => Nat.le_trans HE4.out.size (HN6.out k hk)) hb.2.reads.1 HPL.out
    obtain ⟨l8, hl8⟩ : ∃ l8, J.put ++ [e] = l8 := ⟨_, rfl⟩
    rw [hl8] at hm
    have HL8 := Lib.hid hl8
    clear hl8
    obtain ⟨p8, c8, rfl⟩ := hm.fact (fun A h => row_len h)
    replace HM := Lib.hid hm
    refine ⟨?_⟩
    refine wpList_append_ran rfl _ _ hr rfl rfl rfl ?_
    clear hr hm hn8 hb
    try clear Ahb
    have fM := HM.out.fa
    go_wp2_with (first
      | ((with_reducible refine at_list ?_); first
        | ((with_reducible refine at_load 37 _ rfl ?_); refine ldW 37 _ rfl rfl rfl HM.out Tryz.underlying37 rfl infoRJ ?_)
        | ((first
          | ((with_reducible refine at_store 37 _ _ rfl ?_); refine stW 37 _ _ rfl rfl rfl rfl HM.out infoRJ ?_; intro w9 M)
          | ((with_reducible refine at_box 37 _ rfl ?_); refine boW 37 _ rfl rfl rfl HM.out ?_; intro w9 n9 M)
          | ((with_reducible refine at_alloc 37 rfl ?_); refine alW 37 rfl rfl (zeroRJ _) HM.out ?_; intro w9 n9 M)); replace HM := Lib.hid M; clear M; clear fM; have fM := HM.out.fa)))
    all_goals clear fM
    refine nxt HM fun w9 M => ?_
    clear HM; have HM := M; clear M
    have hU := (HM.out.pick (r := rowR enE (.slice p8 l8.length c8) l8) (by with_reducible repeat first | exact ph | apply pt)).upd.row
    refine bodyPost_ret (rtW 37 Tryz.results17 _ rfl HM.out Tryz.underlying37 rfl infoRJ) rfl ?_
    rw [HQ.out]
    rw [HL8.out]
    exact ⟨_, rfl, ((HR.out.ext hU.2).mono (fun k hk => Or.inl hk)).setPut _ l8 (hU.1.mono (Nat.zero_le _)) (fun k hk => .inr (Win.block hU.1 k hk).1), hU.2⟩
theorem may_if {a b : Prop} [Decidable a] [Decidable b] {x : Int} (h : x = if a then 2 else if b then 4 else 0) (h0 : x = 0) : ¬ a ∧ ¬ b := by
  rw [h0] at h
  split at h
  · cases h
  · split at h
    · cases h
    · exact ⟨by assumption, by assumption⟩
theorem rsee_any {A : Nat → Prop} (w : World) (J : JA) (cs : List Value) (x : Sn) (h : RefAt w A J cs) (hA : ∀ k, A k → k < w.heap.size) (hok : OkR J) (hpl : J.put.length ≤ 4096) (ht : x.e.text.length ≤ 500000) : SeeC w A J cs x := by
  by_cases hm : mayE J x = 0
  case neg => exact rsee_may w J cs x h hA hok ht hm
  obtain ⟨kind, who, index, e⟩ := x
  by_cases hk : 1 ≤ kind ∧ kind ≤ 6
  case neg => rw [mayE_none hk] at hm; cases hm
  have h9 := hok.n
  have h16 := hok.m
  obtain rfl | rfl | rfl | rfl | rfl | rfl : kind = 1 ∨ kind = 2 ∨ kind = 3 ∨ kind = 4 ∨ kind = 5 ∨ kind = 6 := by omega
  · exact rsee_1 w J cs who index e h hA hok hpl ht hm
  · obtain ⟨h1, h2⟩ := may_if (show mayE J ⟨2, who, index, e⟩ = if index < 0 ∨ (e.kind = 1 ∨ enB e = false) then 2 else if who < 0 ∨ J.n ≤ who then 4 else 0 by simp [mayE, kindF]) hm
    obtain ⟨p, rfl⟩ : ∃ p : Nat, who = p := ⟨who.toNat, by omega⟩
    exact rsee_2 w J cs p index e h hA hok ht (by omega) (by have h3 : ¬ index < 0 := fun h => h1 (.inl h); omega) hm
  · obtain ⟨h1, h2⟩ := may_if (show mayE J ⟨3, who, index, e⟩ = if index < 0 then 2 else if who < 0 ∨ J.n ≤ who then 4 else 0 by simp [mayE, kindF]) hm
    obtain ⟨p, rfl⟩ : ∃ p : Nat, who = p := ⟨who.toNat, by omega⟩
    exact rsee_3 w J cs p index e h hA hok ht (by omega) hm
  · obtain ⟨h1, h2⟩ := may_if (show mayE J ⟨4, who, index, e⟩ = if index < 0 then 2 else if who < 0 ∨ J.m ≤ who then 4 else 0 by simp [mayE, kindF]) hm
    obtain ⟨p, rfl⟩ : ∃ p : Nat, who = p := ⟨who.toNat, by omega⟩
    exact rsee_4 w J cs p index e h hA hok ht (by omega) (by omega) hm
  · obtain ⟨h1, h2⟩ := may_if (show mayE J ⟨5, who, index, e⟩ = if index < 0 ∨ (e.kind = 1 ∨ enB e = false) then 2 else if who < 0 ∨ J.m ≤ who then 4 else 0 by simp [mayE, kindF]) hm
    obtain ⟨p, rfl⟩ : ∃ p : Nat, who = p := ⟨who.toNat, by omega⟩
    exact rsee_5 w J cs p index e h hA hok ht (by omega) (by have h3 : ¬ index < 0 := fun h => h1 (.inl h); omega) hm
  · obtain ⟨h1, h2⟩ := may_if (show mayE J ⟨6, who, index, e⟩ = if index < -1 then 2 else if who < 0 ∨ J.m ≤ who then 4 else 0 by simp [mayE, kindF]) hm
    obtain ⟨p, rfl⟩ : ∃ p : Nat, who = p := ⟨who.toNat, by omega⟩
    exact rsee_6 w J cs p index e h hA hok ht (by omega) hm
/-- what comes by a thing seen is such again -/
theorem putIn_len (J : JA) (e : En) : (J.putIn e).put.length ≤ J.put.length + 1 := by
  unfold JA.putIn
  dsimp only
  split
  · omega
  · simp
theorem kindsR_st (J : JA) (x : Sn) (h : J.T.Ok) : (kindsR J x).1.T.Ok ∧ (kindsR J x).1.put.length ≤ J.put.length + 1 := by
  by_cases h0 : (kindsR J x).2 = 0
  case neg => rw [kindsR_bad J x h0]; exact ⟨h, Nat.le_succ _⟩
  clear h0
  unfold kindsR
  split
  · unfold putR; split
    · exact ⟨h, putIn_len J x.e⟩
    · exact ⟨h, Nat.le_succ _⟩
  split
  · unfold lineR
    split
    · exact ⟨h, Nat.le_succ _⟩
    split
    · split
      · exact ⟨h, Nat.le_succ _⟩
      · exact ⟨h, Nat.le_succ _⟩
    split
    · exact ⟨h, Nat.le_succ _⟩
    split
    · rename_i hc
      obtain ⟨h1, h2⟩ := hc
      rw [Bool.and_eq_true] at h2
      exact ⟨h.put x.e h2.1 h2.2, Nat.le_succ _⟩
    · exact ⟨h, Nat.le_succ _⟩
  split
  · unfold backR; repeat' split
    all_goals exact ⟨h, Nat.le_succ _⟩
  split
  · unfold beganR; repeat' split
    all_goals exact ⟨h, Nat.le_succ _⟩
  split
  · unfold toldR; repeat' split
    all_goals exact ⟨h, Nat.le_succ _⟩
  · unfold wentR; split
    all_goals exact ⟨h, Nat.le_succ _⟩
theorem seeR_st (J : JA) (x : Sn) (h : J.T.Ok) : (seeR J x).1.T.Ok ∧ (seeR J x).1.put.length ≤ J.put.length + 1 := by
  have hk := kindsR_st J x h
  unfold seeR
  split
  · split
    · exact hk
    · exact hk
  · exact ⟨h, Nat.le_succ _⟩
theorem J0_okr {c m : Int} (hc : RightC c) (h2 : m ≤ 16) : OkR (J0 c m) := ⟨OkJ.new hc h2, T0_ok, by show (0 : Nat) ≤ 1000000; omega⟩
abbrev nilV : Value := .slice none 0 0
instance wd0 : Wd 0 [] := ⟨rfl, fun u h => by cases h⟩
instance wdC (v : Value) (l : List Value) (n : Nat) [g : One v] [h : Wd n l] : Wd (n + 1) (v :: l) := ⟨by rw [List.length_cons, h.len], fun u hu => by
  rcases List.mem_cons.1 hu with rfl | hu
  · exact g.out
  · exact h.one u hu⟩
theorem build_rj (w : World) (c m : Int) : (Instr.build 37 #[(0, .int .i64 c), (1, .int .i64 m)]).run Tryz.prog w = .ok (.agg ((J0k c m 0).rcells nilV nilV).toArray) w := by kernel_rfl
theorem J0k_rset (c m : Int) (k : Nat) (hk : k < 16) : ((J0k c m k).rcells nilV nilV).set (13 + k) (.int .i64 (-1)) = (J0k c m (k + 1)).rcells nilV nilV := by
  obtain rfl | rfl | rfl | rfl | rfl | rfl | rfl | rfl | rfl | rfl | rfl | rfl | rfl | rfl | rfl | rfl : k = 0 ∨ k = 1 ∨ k = 2 ∨ k = 3 ∨ k = 4 ∨ k = 5 ∨ k = 6 ∨ k = 7 ∨ k = 8 ∨ k = 9 ∨ k = 10 ∨ k = 11 ∨ k = 12 ∨ k = 13 ∨ k = 14 ∨ k = 15 := by omega
  all_goals rfl
theorem rnew_any (w : World) (c m : Int) (hc : RightC c) (h1 : 1 ≤ m) (h2 : m ≤ 16) :
    Calls Tryz.prog 8 #[.int .i64 c, .int .i64 m] w fun r w' => ∃ cs, r = .returned (.tuple #[.agg cs.toArray, .int .i64 0]) ∧ RefAt w' NoB (J0 c m) cs ∧ Ext w w' := by
  have HM := Lib.hid (Mem.start0 w)
  have HC := Lib.hid hc
  have e1 : ¬ m < 1 := by omega
  have e2 : ¬ 16 < m := by omega
  have HLEN := Lib.hid (show ((J0k c m 0).rcells nilV nilV).length = 31 from rfl)
  have HONE := Lib.hid ((J0k c m 0).rcells_one none none 0 0 0 0)
  have HWD : Wd _ _ := ⟨HLEN.out, HONE.out⟩
  clear hc
  go_enter Tryz.func8, Tryz.ntmps8
  have fM := HM.out.fa
  go_wp2_with (first
    | ((with_reducible refine at_list ?_); first
      | ((with_reducible refine at_load 37 _ rfl ?_); refine ldW 37 _ rfl rfl rfl HM.out Tryz.underlying37 rfl infoRJ ?_)
      | ((first
        | ((with_reducible refine at_store 37 _ _ rfl ?_); refine stW 37 _ _ rfl rfl rfl rfl HM.out infoRJ ?_; intro w9 M)
        | ((with_reducible refine at_box 37 _ rfl ?_); refine boW 37 _ rfl rfl rfl HM.out ?_; intro w9 n9 M)
        | ((with_reducible refine at_alloc 37 rfl ?_); refine alW 37 rfl rfl (zeroRJ _) HM.out ?_; intro w9 n9 M)); replace HM := Lib.hid M; clear M; clear fM; have fM := HM.out.fa)))
  all_goals clear fM
  rename Nat => n4
  refine (ref12_any _ c).mono ?_
  rintro r wq ⟨rfl, hwq⟩
  rw [hwq, decide_eq_true HC.out]
  clear hwq wq
  have fM := HM.out.fa
  go_wp2_with (first
    | ((with_reducible refine at_list ?_); first
      | ((with_reducible refine at_load 37 _ rfl ?_); refine ldW 37 _ rfl rfl rfl HM.out Tryz.underlying37 rfl infoRJ ?_)
      | ((first
        | ((with_reducible refine at_store 37 _ _ rfl ?_); refine stW 37 _ _ rfl rfl rfl rfl HM.out infoRJ ?_; intro w9 M)
        | ((with_reducible refine at_box 37 _ rfl ?_); refine boW 37 _ rfl rfl rfl HM.out ?_; intro w9 n9 M)
        | ((with_reducible refine at_alloc 37 rfl ?_); refine alW 37 rfl rfl (zeroRJ _) HM.out ?_; intro w9 n9 M)); replace HM := Lib.hid M; clear M; clear fM; have fM := HM.out.fa))
    | (refine wpList_build_wide 37 (v := .agg ((J0k c m 0).rcells nilV nilV).toArray) rfl rfl (build_rj _ c m) ?_))
  all_goals clear fM
  refine nxt HM fun w5 M => ?_
  clear HM; have HM := M; clear M
  go_loopw [7] (fun i wr => ∃ k : Nat, k ≤ 16 ∧ i = .int .i64 k ∧ Hid (Mem NoB w wr [cellsR n9 37 ((J0k c m k).rcells nilV nilV), cellsR n4 37 zRJ])) (fun i _ => 16 - (intOf i).toNat)
  case atStart => exact ⟨0, Nat.zero_le _, rfl, HM⟩
  case round =>
    obtain ⟨k, hk, rfl, HM⟩ := hrel
    by_cases hlt : k < 16
    · have g3 : (k : Int) < 16 := by omega
      have g4 : ¬ (k : Int) < 0 := by omega
      have c0 : ∃ u, ((J0k c m k).rcells nilV nilV)[13 + k]? = some u := ⟨_, ((J0k c m k).rat nilV nilV rfl (by simp [J0k]; omega)).2.2.2.2.2.1 k hlt⟩
      obtain ⟨u, hu⟩ := c0
      have hset := J0k_rset c m k hlt
      obtain ⟨cs, hcs⟩ : ∃ cs, (J0k c m k).rcells nilV nilV = cs := ⟨_, rfl⟩
      rw [hcs] at hu HM hset
      have HS := Lib.hid hset
      clear hset hcs
      have fM := HM.out.fa
      go_wp2_with fail
      all_goals clear fM
      go_roundw
      case rel =>
        refine ⟨k + 1, by omega, by go_num, Lib.hid ?_⟩
        rw [← HS.out]
        apply Mem.mem
        · skip
          exact HM.out.to
        intro w8 M
        exact Mem.sub M (by repeat first | exact Sub.nil | refine Sub.cons (by with_reducible repeat first | exact ph | apply pt) ?_)
      case measure => simp [intOf]; omega
    · obtain rfl : k = 16 := by omega
      have HLEN1 := Lib.hid (show ((J0k c m 16).rcells nilV nilV).length = 31 from rfl)
      have HONE1 := Lib.hid ((J0k c m 16).rcells_one none none 0 0 0 0)
      have HWD1 : Wd _ _ := ⟨HLEN1.out, HONE1.out⟩
      have fM := HM.out.fa
      go_wp2_with (first
        | ((with_reducible refine at_list ?_); first
          | ((with_reducible refine at_load 37 _ rfl ?_); refine ldW 37 _ rfl rfl rfl HM.out Tryz.underlying37 rfl infoRJ ?_)
          | ((first
            | ((with_reducible refine at_store 37 _ _ rfl ?_); refine stW 37 _ _ rfl rfl rfl rfl HM.out infoRJ ?_; intro w9 M)
            | ((with_reducible refine at_box 37 _ rfl ?_); refine boW 37 _ rfl rfl rfl HM.out ?_; intro w9 n9 M)
            | ((with_reducible refine at_alloc 37 rfl ?_); refine alW 37 rfl rfl (zeroRJ _) HM.out ?_; intro w9 n9 M)); replace HM := Lib.hid M; clear M; clear fM; have fM := HM.out.fa)))
      all_goals clear fM
      refine nxt HM fun w6 M => ?_
      clear HM; have HM := M; clear M
      refine bodyPost_ret (rtW 37 Tryz.results8 _ rfl HM.out Tryz.underlying37 rfl infoRJ) rfl ?_
      exact ⟨_, rfl, ⟨nilV, nilV, rfl, Win.nil _ _ _, (fun k hk => by cases hk), Win.nil _ _ _, (fun k hk => by cases hk), rfl, rfl⟩, HM.out.extTo⟩
end Go.Proofs.YthhdgjofagdjeaaGreatDoor
end
section
/- What the laws of layer 30 share: things seen as an argument, few, both judges told a list of things. Conditions: as each says. -/
set_option linter.unusedVariables false
set_option linter.unusedSimpArgs false
set_option maxHeartbeats 4000000
set_option maxRecDepth 100000
namespace Go.Proofs.YthhdgjofagdjeaaGreatDoor
open Go.RowKit Go.Shelf Go.ChangeShapes Go.WideShapes
def Sn.cells (x : Sn) : List Value := [.int .i64 x.kind, .int .i64 x.who, .int .i64 x.index, .int .i64 x.e.kind, .int .i64 x.e.member, .int .i64 x.e.number, .string (bs x.e.text)]
/-- a thing seen whose numbers fit -/
structure OkS (x : Sn) : Prop where
  kind : I64 x.kind
  e : OkE x.e
def SnEn (cs : List Value) (x : Sn) : Prop := cs = x.cells ∧ OkS x
/-- a slice of things seen -/
def Sns (w : World) (A : Nat → Prop) (v : Value) (l : List Sn) : Prop := SlV A (AtOf w 7 SnEn) 7 v l
section
variable {w w' : World} {A S : Nat → Prop} {v : Value} {l : List Sn}
theorem Sns.keeps (h : Sns w A v l) (hk : Keeps S w w') (hA : ∀ k, A k → ¬ S k) : Sns w' A v l :=
  SlV.mono h (fun _ h => h) fun b o x hb ⟨cs, h1, h2, h3⟩ => ⟨cs, h1, h2, fun j hj => by
    have hc := h3 j hj
    rw [List.getElem?_eq_getElem (by omega)] at hc ⊢
    exact hk.cell (hA b hb) hc⟩
theorem Sns.ext (h : Sns w A v l) (hk : Ext w w') : Sns w' A v l := h.keeps hk fun _ _ => noB _
theorem Sns.len (h : Sns w A v l) : ∃ a c, v = .slice a l.length c := by
  rcases h with ⟨a, rfl, rfl⟩ | ⟨b, o, c, rfl, _⟩
  · exact ⟨_, _, rfl⟩
  · exact ⟨_, _, rfl⟩
theorem Sns.at {a : Option Addr} {c : Nat} (h : Sns w A (.slice a l.length c) l) (k : Nat) (hk : k < l.length) : ∃ g o, a = some ⟨g, o, none⟩ ∧ A g ∧ OkS l[k] ∧ ∀ j, j < 7 → w.cell? ⟨g, o + k * 7 + j, none⟩ = (l[k].cells)[j]? := by
  rcases h with ⟨a', h1, rfl⟩ | ⟨b, o, c', h1, h2, h3, h4⟩
  · simp at hk
  · cases h1
    obtain ⟨cs, ⟨rfl, h5⟩, h6, h7⟩ := h4 k hk
    exact ⟨b, o, rfl, h3, h5, h7⟩
theorem Sns.ok (h : Sns w A v l) : ∀ x ∈ l, OkS x := by
  intro x hx
  obtain ⟨k, hk, rfl⟩ := List.getElem_of_mem hx
  obtain ⟨a, c, rfl⟩ := h.len
  obtain ⟨_, _, _, _, h5, _⟩ := h.at k hk
  exact h5
end
theorem i64_of {n : Int} (h : (Lit.int .i64 n).wf = true) : I64 n := by
  unfold I64
  simp [Lit.wf, IntKind.min, IntKind.max, IntKind.signed, IntKind.bits] at h
  omega
/-- does a list hold few things, of short texts? -/
def fewB (l : List Sn) (most : Int) : Bool := l.all (fun x => decide (x.e.text.length ≤ 300)) && decide ((l.length : Int) ≤ most)
theorem fewB_text {l : List Sn} {most : Int} (h : fewB l most = true) : (∀ x ∈ l, x.e.text.length ≤ 300) ∧ (l.length : Int) ≤ most := by
  unfold fewB at h
  rw [Bool.and_eq_true, List.all_eq_true] at h
  exact ⟨fun x hx => of_decide_eq_true (h.1 x hx), of_decide_eq_true h.2⟩
theorem few_any {A : Nat → Prop} (w : World) (v : Value) (l : List Sn) (most : Int) (h : Sns w A v l) (hl : l.length ≤ 9223372036854775807) (hA : ∀ k, A k → k < w.heap.size) :
    Calls Tryz.prog 5 #[v, .int .i64 most] w fun r w' => r = .returned (.bool (fewB l most)) ∧ w' = w := by
  obtain ⟨a, c, rfl⟩ := h.len
  have HS := Lib.hid h
  have HL := Lib.hid hl
  have HA := Lib.hid hA
  clear h hl hA
  go_enter Tryz.func5, Tryz.ntmps5
  go_wp2_with fail
  go_loop [5] (fun i => ∃ k : Nat, k ≤ l.length ∧ i = .int .i64 k ∧ Hid (∀ j (hj : j < l.length), j < k → l[j].e.text.length ≤ 300)) (fun i => l.length - (intOf i).toNat)
  case atStart => exact ⟨0, Nat.zero_le _, rfl, Lib.hid fun j _ h => absurd h (by omega)⟩
  case round =>
    obtain ⟨k, hk, rfl, HP⟩ := hrel
    by_cases hlt : k < l.length
    · obtain ⟨g, o, rfl, hg, -, hx⟩ := HS.out.at k hlt
      have hgl := HA.out g hg
      have d6 : w.cell? ⟨g, o + k * 7 + 3 + 3, none⟩ = some (.string (bs l[k].e.text)) := hx 6 (by decide)
      obtain ⟨t, ht⟩ : ∃ t, l[k].e.text = t := ⟨_, rfl⟩
      rw [ht] at d6
      have HT := Lib.hid ht
      have hsz := bs_size t
      have g1 : (k : Int) < (l.length : Int) := by omega
      have g2 : ¬ (k : Int) < 0 := by omega
      have g3 : (k : Int) < 9223372036854775807 := by have := HL.out; omega
      have HK := Lib.hid hlt
      clear hg hx ht
      by_cases h3 : t.length ≤ 300
      · have g4 : ¬ (300 : Int) < (t.length : Int) := by omega
        have H3 := Lib.hid h3
        clear h3
        go_wp2_with fail
        go_round
        case rel => exact ⟨k + 1, by omega, by go_num, Lib.hid fun j hj h => by
          by_cases e : j = k
          · subst e; rw [HT.out]; exact H3.out
          · exact HP.out j hj (by omega)⟩
        case measure => simp [intOf]; omega
      · have g4 : (300 : Int) < (t.length : Int) := by omega
        have HQ : Hid (fewB l most = false) := Lib.hid (by
          cases hb : fewB l most
          · rfl
          · have := (fewB_text hb).1 _ (List.getElem_mem hlt)
            rw [HT.out] at this
            exact absurd this h3)
        clear h3
        go_wp2_with fail
        go_ret
        exact ⟨by rw [HQ.out]; rfl, rfl⟩
    · obtain rfl : k = l.length := by omega
      have HQ : Hid (fewB l most = decide ((l.length : Int) ≤ most)) := Lib.hid (by
        unfold fewB
        rw [show l.all (fun x => decide (x.e.text.length ≤ 300)) = true from List.all_eq_true.2 fun x hx => by
          obtain ⟨j, hj, rfl⟩ := List.getElem_of_mem hx
          exact decide_eq_true (HP.out j hj hj), Bool.true_and])
      clear hlt hk
      go_wp2_with fail
      go_ret
      exact ⟨by rw [HQ.out]; rfl, rfl⟩
/-- the document's judge, as a thing in memory -/
def refR (cs : List Value) (J : JA) : Res := anyR (fun F w => RefAt w F J cs ∧ ∀ k, F k → k < w.heap.size) (fun h hk hs => ⟨h.1.keeps hk hs, fun k hF => Nat.lt_of_lt_of_le (h.2 k hF) hk.size⟩) (fun h => h.2)
theorem refR_tag {cs : List Value} {J : JA} : (refR cs J).tag = none := rfl
theorem RefAt.trim {w : World} {A : Nat → Prop} {J : JA} {cs : List Value} (h : RefAt w A J cs) : RefAt w (fun k => A k ∧ k < w.heap.size) J cs :=
  let ⟨vl, vp, h1, h2, h3, h4, h5, h6⟩ := h
  ⟨vl, vp, h1, h2, fun k hk => ⟨h3 k hk, (Win.block h2 k hk).2⟩, h4, fun k hk => ⟨h5 k hk, (Win.block h4 k hk).2⟩, h6⟩
theorem RefAt.upd {w w' : World} {A : Nat → Prop} {J : JA} {cs : List Value} (h : RefAt w' (fun k => A k ∨ w.heap.size ≤ k) J cs) (e : Ext w w') : Upd A w w' (refR cs J) :=
  ⟨_, ⟨h.trim, fun k hk => hk.2⟩, e.keeps, fun k hk => hk.1⟩
/-- told a list of things -/
def sees (J : JA) (l : List Sn) : JA := l.foldl (fun J x => (seeR J x).1) J
theorem sees_snoc (J : JA) (l : List Sn) (x : Sn) : sees J (l ++ [x]) = (seeR (sees J l) x).1 := by unfold sees; rw [List.foldl_append]; rfl
theorem sees_ok : ∀ (l : List Sn) (J : JA), OkJ J → J.T.Ok → OkJ (sees J l) ∧ (sees J l).T.Ok ∧ (sees J l).put.length ≤ J.put.length + l.length
  | [], J, hJ, hT => ⟨hJ, hT, Nat.le_refl _⟩
  | x :: l, J, hJ, hT => by
    have h4 := seeR_st J x hT
    obtain ⟨h1, h2, h3⟩ := sees_ok l (seeR J x).1 (hJ.see x) h4.1
    exact ⟨h1, h2, by have := h4.2; simp only [List.length_cons]; exact Nat.le_trans h3 (by omega)⟩
theorem Mem.postM {Fe : Fence} {n : Nat} {P : Program} {fn : Func} {R : Ending → World → Prop} {e : Exit} {a : Act} {F : Nat → Prop} {w0 w' : World} {L : List Res} (h : Mem F w0 w' L) (k : ∀ w, Mem F w0 w L → bodyPostM Fe n P fn R e a w) : bodyPostM Fe n P fn R e a w' := k _ h
instance gl8 (Fe : Fence) (n : Nat) (P : Program) (fn : Func) (R : Ending → World → Prop) (e : Exit) (a : Act) (w : World) : Gl (bodyPostM Fe n P fn R e a w) (fun w => bodyPostM Fe n P fn R e a w) w := ⟨id⟩
theorem sns_one {w : World} {b : Nat} {t : TypeId} {x : Sn} (h : Box w b t x.cells) (hx : OkS x) : Sns w (fun k => k = b) (.slice (some ⟨b, 0, none⟩) 1 1) [x] :=
  .inr ⟨b, 0, 1, rfl, Nat.le_refl _, rfl, fun i hi => by
    obtain rfl : i = 0 := by simp at hi; omega
    exact ⟨x.cells, ⟨rfl, hx⟩, rfl, fun j hj => by rw [Nat.zero_mul, Nat.zero_add]; exact h.reads.1 j⟩⟩
theorem exec_load_wide {P : Program} {o : Oper} {a : Act} {w w0 : World} {F : Nat → Prop} {L L' : List Res} (ty : TypeId) {d : TypeDesc} {b : Nat} {t : TypeId} {cs : List Value} (x : Operand) (ho : o.op = .load ty x) (hx : a.eval x = .pointer (some ⟨b, 0, none⟩)) (h : Mem F w0 w L) (p : Pick L (cellsR b t cs) L')
    (hu : P.underlying ty = some d) (hd : (match d with | .struct _ | .array _ _ => true | _ => false) = true) (hi : (P.info? ty).map (·.size) = some cs.length) : (execOp a.eval o).run P w = .ok (.value (.agg cs.toArray)) w := by
  have := loadVar_wide ty h p hu hd hi
  simp [execOp, ho, hx, Instr.loadAt, Instr.sureAddr, Sem.run_bind, Result.andThen, this]
theorem seq_nil2 (w : World) (p : Option Addr) : (binOp .eql 47 (.func (.func 27) #[] #[.pointer p]) .nilFunc).run Tryz.prog w = .ok (.bool false) w := by kernel_rfl
/-- a sequence over a talk's copy -/
def SeqP (q b : Nat) (T : TA) (F : Nat → Prop) (w : World) : Prop := ∃ F' : Nat → Prop, (∀ k, F k ↔ k = q ∨ F' k) ∧ Box w q 42 [.pointer (some ⟨b, 0, none⟩)] ∧ TalkX w F' b T
theorem SeqP.keeps {q b : Nat} {T : TA} {F S : Nat → Prop} {w w' : World} (h : SeqP q b T F w) (hk : Keeps S w w') (hs : ∀ k, F k → ¬ S k) : SeqP q b T F w' := by
  obtain ⟨F', h1, h2, h3⟩ := h
  exact ⟨F', h1, h2.keeps hk (hs q ((h1 q).2 (.inl rfl))), h3.keeps hk fun k hF => hs k ((h1 k).2 (.inr hF))⟩
theorem SeqP.lt {q b : Nat} {T : TA} {F : Nat → Prop} {w : World} (h : SeqP q b T F w) (k : Nat) (hk : F k) : k < w.heap.size := by
  obtain ⟨F', h1, h2, v, h3⟩ := h
  rcases (h1 k).1 hk with rfl | hk
  · exact h2.lt
  · exact h3.lt k hk
def seqR (q b : Nat) (T : TA) : Res := anyR (SeqP q b T) (fun h hk hs => h.keeps hk hs) (fun h => h.lt)
theorem seqR_tag {q b : Nat} {T : TA} : (seqR q b T).tag = none := rfl
/-- things that lie apart, as one -/
def sepR (L : List Res) : Res := anyR (fun F w => SepL L F w) (fun h hk hs => SepL.keeps h hk hs) (fun h => SepL.lt h)
theorem sepR_tag {L : List Res} : (sepR L).tag = none := rfl
theorem Mem.openSep {F : Nat → Prop} {w0 w : World} {L L1 : List Res} (h : Mem F w0 w (sepR L1 :: L)) : Mem F w0 w (L1 ++ L) := h.open fun A hA => ⟨A, hA, fun _ h => h⟩
theorem Mem.openSep2 {F : Nat → Prop} {w0 w : World} {L : List Res} {r1 r2 : Res} (h : Mem F w0 w (sepR [r1, r2] :: L)) : Mem F w0 w (r1 :: r2 :: L) := h.openSep
/-- the mark of a range -/
def markR (D : Nat) : Res := anyR (fun F w => (∀ k, F k ↔ k = D) ∧ Mark w D) (fun h hk hs => ⟨h.1, h.2.keeps hk (hs D ((h.1 D).2 rfl))⟩) (fun h k hk => by rw [(h.1 k).1 hk]; exact h.2.lt)
theorem markR_tag {D : Nat} : (markR D).tag = none := rfl
theorem upd_mark {A0 : Nat → Prop} {w w' : World} {nb : Nat} {v : Value} (hA : ∀ k, A0 k ↔ k = nb) (hb : Box w' nb 3 [v]) (hm : Mark w' w.heap.size) (hk : Keeps (OneB nb) w w') (hn : nb < w.heap.size) : Upd A0 w w' (sepR [cellsR nb 3 [v], markR w.heap.size]) :=
  ⟨fun k => k = nb ∨ k = w.heap.size, ⟨fun k => k = nb, fun k => k = w.heap.size, ⟨fun _ => Iff.rfl, hb⟩, ⟨fun k => k = w.heap.size, fun _ => False, ⟨fun _ => Iff.rfl, hm⟩, fun _ h => h, fun _ _ h => h, fun k => ⟨.inl, fun h => h.resolve_right id⟩⟩, fun k h1 h2 => by omega, fun _ => Iff.rfl⟩,
    hk.mono (fun i _ h => (hA i).2 h), fun k hk => by rcases hk with hk | hk; exact .inl ((hA k).2 hk); exact .inr (by omega)⟩
theorem Mem.apart {F : Nat → Prop} {w0 w : World} {L L1 L2 : List Res} {r r' : Res} (h : Mem F w0 w L) (p : Pick L r L1) (p2 : Pick L1 r' L2) : ∃ A B, r.p A w ∧ r'.p B w ∧ ∀ k, A k → ¬ B k := by
  obtain ⟨_, G, ⟨A, B, h1, h2, h3, h4⟩, _⟩ := h.pick p
  obtain ⟨C, D, g1, g2, g3, g4⟩ := p2.sep h2
  exact ⟨A, C, h1, g1, fun k hA hC => h3 k hA ((g4 k).2 (.inl hC))⟩
end Go.Proofs.YthhdgjofagdjeaaGreatDoor
end
section
/- How many lines a place told, what a member is told next. Condition: the judge lies as 'JudgeX' says. -/
set_option linter.unusedVariables false
set_option linter.unusedSimpArgs false
set_option maxHeartbeats 2000000
set_option maxRecDepth 100000
namespace Go.Proofs.YthhdgjofagdjeaaGreatDoor
open Go.RowKit
def atR (n : Nat) (f : Nat → Int) (i other : Int) : Int := if 0 ≤ i ∧ i < (n : Int) then f i.toNat else other
theorem at_any (w : World) (g o n c : Nat) (f : Nat → Int) (i other : Int) (h : ∀ k, k < n → w.cell? ⟨g, o + k, none⟩ = some (.int .i64 (f k))) :
    Calls Tryz.prog 33 #[.slice (some ⟨g, o, none⟩) n c, .int .i64 i, .int .i64 other] w fun r w' => r = .returned (.int .i64 (atR n f i other)) ∧ w' = w := by
  by_cases h0 : i < 0
  · have HQ := Lib.hid (show atR n f i other = other by unfold atR; rw [if_neg (by omega)])
    clear h
    go_enter Tryz.func33, Tryz.ntmps33
    go_wp2_with fail
    go_ret
    exact ⟨by rw [HQ.out]; rfl, rfl⟩
  · obtain ⟨k, rfl⟩ : ∃ k : Nat, i = k := ⟨i.toNat, by omega⟩
    by_cases h1 : k < n
    · have HQ := Lib.hid (show atR n f k other = f k by unfold atR; rw [if_pos (by omega)]; rfl)
      have hc := h k h1
      have g1 : ¬ (n : Int) ≤ (k : Int) := by omega
      have g2 : (k : Int) < (n : Int) := by omega
      clear h h1
      go_enter Tryz.func33, Tryz.ntmps33
      go_wp2_with fail
      go_ret
      exact ⟨by rw [HQ.out]; rfl, rfl⟩
    · have HQ := Lib.hid (show atR n f k other = other by unfold atR; rw [if_neg (by omega)])
      have g1 : (n : Int) ≤ (k : Int) := by omega
      clear h h1
      go_enter Tryz.func33, Tryz.ntmps33
      go_wp2_with fail
      go_ret
      exact ⟨by rw [HQ.out]; rfl, rfl⟩
theorem place_any {F : Nat → Prop} (w : World) (b : Nat) (J : JA) (p : Int) (h : JudgeX w F b J) (h0 : 0 ≤ J.n) (h9 : J.n ≤ 9) :
    Calls Tryz.prog 12 #[.pointer (some ⟨b, 0, none⟩), .int .i64 p] w fun r w' => r = .returned (.int .i64 (atR J.n.toNat (fun k => J.told.getD k 0) p 0)) ∧ Ext w w' := by
  have HX := Lib.hid h
  obtain ⟨n, hn⟩ : ∃ n : Nat, J.n = n := ⟨J.n.toNat, by omega⟩
  have hn9 : (n : Int) ≤ 9 := by omega
  have HN := Lib.hid hn
  clear h h0 h9 hn
  go_enter Tryz.func12, Tryz.ntmps12
  go_wp2_with fail
  refine (judge_none w b J HX.out).mono ?_
  rintro e w' ⟨rfl, rfl⟩
  obtain ⟨Ft, tb, mb, h⟩ := HX.out
  obtain ⟨c25, c26, c27, c28, c29, lt⟩ := h.see
  have HB := Lib.hid h.box
  have hcell : ∀ W, Ext w' W → ∀ k, k < n → W.cell? ⟨b, 0 + k, none⟩ = some (.int .i64 (J.told.getD k 0)) := fun W hW k hk => by
    rw [(h.box.ext hW).reads.1, Nat.zero_add, (J.at tb mb h.l9 h.l16).1 k (by omega), List.getD_eq_getElem?_getD, List.getElem?_eq_getElem (by have := h.l9; omega)]; rfl
  have HC := Lib.hid hcell
  rw [HN.out] at c26
  have g0 : ¬ (n : Int) < 0 := by omega
  clear h c25 c27 c28 c29 hcell
  go_wp2_with fail
  obtain ⟨cHB, zHB⟩ := HB.out.reads
  have lHB := HB.out.lt
  have hE0 : Keeps NoB w' w'.drew := (Keeps.refl _ _).drew
  refine wp_region_plan [(0, 0), (0, 1), (0, 2), (0, 3), (0, 4), (0, 5), (0, 6), (3, 7), (0, 8), (0, 9)] [] [10, 11] [10, 11] (ClsE w') (by kernel_rfl) (by kernel_rfl) (by kernel_rfl) rfl rfl (ClsE.of hE0) (fun _ _ _ d _ h => by cases d <;> exact h) ?_; simp only [planL, nL]
  refine pM _ rfl rfl ?_; simp only [nP, nE]
  iterate 3 (refine pR (v := ?_) rfl (fun W => ?_) ?_; rotate_left; (go_simp <;> with_reducible rfl); simp only [nP])
  refine pM _ rfl rfl ?_; simp only [nP, nE]
  iterate 2 (refine pR (v := ?_) rfl (fun W => ?_) ?_; rotate_left; (go_simp <;> with_reducible rfl); simp only [nP])
  refine pX (v := ?_) rfl ?_ ?_; rotate_left; (go_simp <;> with_reducible rfl); simp only [nP]
  refine pR (v := ?_) rfl (fun W => ?_) ?_; rotate_left; (go_simp <;> with_reducible rfl); simp only [nP]
  refine pM _ rfl rfl ?_; simp only [nP, nE]
  refine plan_nil ?_; simp only [tailL, List.filterMap_cons, List.filterMap_nil, nL]; change wpList _ _ _ (_ :: _ :: []) _ _
  go_wp2_with fail
  refine (at_any _ b 0 n 9 _ p 0 (HC.out _ hE0)).mono ?_
  rintro r w2 ⟨rfl, rfl⟩
  go_wp2_with fail
  clear cHB zHB lHB
  go_ret
  refine ⟨?_, by assumption⟩
  rw [HN.out]
  rfl
theorem member_any {F : Nat → Prop} (w : World) (b : Nat) (J : JA) (p : Int) (h : JudgeX w F b J) (h0 : 0 ≤ J.m) (h9 : J.m ≤ 16) :
    Calls Tryz.prog 13 #[.pointer (some ⟨b, 0, none⟩), .int .i64 p] w fun r w' => r = .returned (.int .i64 (atR J.m.toNat (fun k => J.next.getD k 0) p (-1))) ∧ Ext w w' := by
  have HX := Lib.hid h
  obtain ⟨n, hn⟩ : ∃ n : Nat, J.m = n := ⟨J.m.toNat, by omega⟩
  have hn9 : (n : Int) ≤ 16 := by omega
  have HN := Lib.hid hn
  clear h h0 h9 hn
  go_enter Tryz.func13, Tryz.ntmps13
  go_wp2_with fail
  refine (judge_none w b J HX.out).mono ?_
  rintro e w' ⟨rfl, rfl⟩
  obtain ⟨Ft, tb, mb, h⟩ := HX.out
  obtain ⟨c25, c26, c27, c28, c29, lt⟩ := h.see
  have HB := Lib.hid h.box
  have hcell : ∀ W, Ext w' W → ∀ k, k < n → W.cell? ⟨b, 9 + k, none⟩ = some (.int .i64 (J.next.getD k 0)) := fun W hW k hk => by
    rw [(h.box.ext hW).reads.1, (J.at tb mb h.l9 h.l16).2.1 k (by omega), List.getD_eq_getElem?_getD, List.getElem?_eq_getElem (by have := h.l16; omega)]; rfl
  have HC := Lib.hid hcell
  rw [HN.out] at c27
  have g0 : ¬ (n : Int) < 0 := by omega
  clear h c25 c26 c28 c29 hcell
  go_wp2_with fail
  obtain ⟨cHB, zHB⟩ := HB.out.reads
  have lHB := HB.out.lt
  have hE0 : Keeps NoB w' w'.drew := (Keeps.refl _ _).drew
  refine wp_region_plan [(0, 0), (0, 1), (0, 2), (0, 3), (0, 4), (0, 5), (0, 6), (3, 7), (0, 8), (0, 9)] [] [10, 11] [10, 11] (ClsE w') (by kernel_rfl) (by kernel_rfl) (by kernel_rfl) rfl rfl (ClsE.of hE0) (fun _ _ _ d _ h => by cases d <;> exact h) ?_; simp only [planL, nL]
  refine pM _ rfl rfl ?_; simp only [nP, nE]
  iterate 3 (refine pR (v := ?_) rfl (fun W => ?_) ?_; rotate_left; (go_simp <;> with_reducible rfl); simp only [nP])
  refine pM _ rfl rfl ?_; simp only [nP, nE]
  iterate 2 (refine pR (v := ?_) rfl (fun W => ?_) ?_; rotate_left; (go_simp <;> with_reducible rfl); simp only [nP])
  refine pX (v := ?_) rfl ?_ ?_; rotate_left; (go_simp <;> with_reducible rfl); simp only [nP]
  refine pR (v := ?_) rfl (fun W => ?_) ?_; rotate_left; (go_simp <;> with_reducible rfl); simp only [nP]
  refine pM _ rfl rfl ?_; simp only [nP, nE]
  refine plan_nil ?_; simp only [tailL, List.filterMap_cons, List.filterMap_nil, nL]; change wpList _ _ _ (_ :: _ :: []) _ _
  go_wp2_with fail
  refine (at_any _ b 9 n 16 _ p (-1) (HC.out _ hE0)).mono ?_
  rintro r w2 ⟨rfl, rfl⟩
  go_wp2_with fail
  clear cHB zHB lHB
  go_ret
  refine ⟨?_, by assumption⟩
  rw [HN.out]
  rfl
/-- a judge that is none -/
def NoneV (w : World) (v : Value) : Prop := v = .pointer none ∨ ∃ b, v = .pointer (some ⟨b, 0, none⟩) ∧ w.cell? ⟨b, 28, none⟩ = some (.pointer none) ∧ b < w.heap.size
theorem NoneV.ext {w w' : World} {v : Value} (h : NoneV w v) (e : Ext w w') : NoneV w' v := by
  rcases h with h | ⟨b, h1, h2, h3⟩
  · exact .inl h
  · exact .inr ⟨b, h1, e.cell h2, Nat.lt_of_lt_of_le h3 e.size⟩
theorem none_none (w : World) (v : Value) (h : NoneV w v) : Calls Tryz.prog 24 #[v] w fun e w' => e = .returned (.bool true) ∧ w' = w := by
  rcases h with rfl | ⟨b, rfl, h2, h3⟩
  · go_enter Tryz.func24, Tryz.ntmps24
    go_wp2_with fail
    go_ret
    exact ⟨rfl, rfl⟩
  · go_enter Tryz.func24, Tryz.ntmps24
    go_wp2_with fail
    go_ret
    exact ⟨rfl, rfl⟩
theorem none_place (w : World) (v : Value) (p : Int) (h : NoneV w v) : Calls Tryz.prog 12 #[v, .int .i64 p] w fun e w' => e = .returned (.int .i64 0) ∧ w' = w := by
  go_enter Tryz.func12, Tryz.ntmps12
  go_wp2_with fail
  refine (none_none w v h).mono ?_
  rintro e w' ⟨rfl, rfl⟩
  go_wp2_with fail
  go_ret
  exact ⟨rfl, rfl⟩
theorem none_member (w : World) (v : Value) (p : Int) (h : NoneV w v) : Calls Tryz.prog 13 #[v, .int .i64 p] w fun e w' => e = .returned (.int .i64 0) ∧ w' = w := by
  go_enter Tryz.func13, Tryz.ntmps13
  go_wp2_with fail
  refine (none_none w v h).mono ?_
  rintro e w' ⟨rfl, rfl⟩
  go_wp2_with fail
  go_ret
  exact ⟨rfl, rfl⟩
theorem none_broken (w : World) (v : Value)  (h : NoneV w v) : Calls Tryz.prog 14 #[v] w fun e w' => e = .returned (.int .i64 0) ∧ w' = w := by
  go_enter Tryz.func14, Tryz.ntmps14
  go_wp2_with fail
  refine (none_none w v h).mono ?_
  rintro e w' ⟨rfl, rfl⟩
  go_wp2_with fail
  go_ret
  exact ⟨rfl, rfl⟩
theorem none_copy (w : World) (v : Value)  (h : NoneV w v) : Calls Tryz.prog 15 #[v] w fun e w' => e = .returned (.pointer none) ∧ w' = w := by
  go_enter Tryz.func15, Tryz.ntmps15
  go_wp2_with fail
  refine (none_none w v h).mono ?_
  rintro e w' ⟨rfl, rfl⟩
  go_wp2_with fail
  go_ret
  exact ⟨rfl, rfl⟩
theorem none_whole (w : World) (v : Value) (h : NoneV w v) : Calls Tryz.prog 9 #[v] w fun e w' => e = .returned (.func (.func 25) #[] #[]) ∧ w' = w := by
  go_enter Tryz.func9, Tryz.ntmps9
  go_wp2_with fail
  refine (none_none w v h).mono ?_
  rintro e w' ⟨rfl, rfl⟩
  go_wp2_with fail
  go_ret
  exact ⟨rfl, rfl⟩
theorem none_see (w : World) (v : Value) (x : Sn) (h : NoneV w v) : Calls Tryz.prog 11 #[v, x.v] w fun e w' => e = .returned (.int .i64 1) ∧ Ext w w' := by
  have HN := Lib.hid h
  rcases h with rfl | ⟨b, rfl, h2, h3⟩
  · skip
    have HM := Lib.hid (Mem.start0 w)
    have HXV := Lib.hid (show x.v = .agg #[.int .i64 x.kind, .int .i64 x.who, .int .i64 x.index, .int .i64 x.e.kind, .int .i64 x.e.member, .int .i64 x.e.number, .string (bs x.e.text)] from rfl)
    rw [HXV.out]
    go_enter_defers Tryz.func11, Tryz.ntmps11
    have fM := HM.out.fa
    go_wp2_with fail
    all_goals clear fM
    refine nxt HM fun w0 M => ?_
    clear HM; have HM := M; clear M
    refine (none_none w0 (.pointer none) (HN.out.ext HM.out.extTo)).mono ?_
    rintro r wq ⟨rfl, hwq⟩
    rw [hwq]
    clear hwq wq
    have fM := HM.out.fa
    go_wp2_with fail
    all_goals clear fM
    refine nxt HM fun w3 M => ?_
    clear HM; have HM := M; clear M
    obtain ⟨Ahb, hb⟩ := HM.out.get (r := cellsR (w.heap.size + 1 + 1) 26 [.int .i64 1]) (by with_reducible repeat first | exact ph | apply pt)
    have hc := hb.2.reads.1
    exact ⟨.int .i64 1, by simp [results, Tryz.results11, go_sem, hc], rfl, HM.out.extTo⟩
  · clear h2 h3
    have HM := Lib.hid (Mem.start0 w)
    have HXV := Lib.hid (show x.v = .agg #[.int .i64 x.kind, .int .i64 x.who, .int .i64 x.index, .int .i64 x.e.kind, .int .i64 x.e.member, .int .i64 x.e.number, .string (bs x.e.text)] from rfl)
    rw [HXV.out]
    go_enter_defers Tryz.func11, Tryz.ntmps11
    have fM := HM.out.fa
    go_wp2_with fail
    all_goals clear fM
    refine nxt HM fun w0 M => ?_
    clear HM; have HM := M; clear M
    refine (none_none w0 (.pointer (some ⟨b, 0, none⟩)) (HN.out.ext HM.out.extTo)).mono ?_
    rintro r wq ⟨rfl, hwq⟩
    rw [hwq]
    clear hwq wq
    have fM := HM.out.fa
    go_wp2_with fail
    all_goals clear fM
    refine nxt HM fun w3 M => ?_
    clear HM; have HM := M; clear M
    obtain ⟨Ahb, hb⟩ := HM.out.get (r := cellsR (w.heap.size + 1 + 1) 26 [.int .i64 1]) (by with_reducible repeat first | exact ph | apply pt)
    have hc := hb.2.reads.1
    exact ⟨.int .i64 1, by simp [results, Tryz.results11, go_sem, hc], rfl, HM.out.extTo⟩
/-- what goes over a judge that is none hands nothing on -/
theorem none_iter {S : Nat → Prop} (w0 : World) : IterOK Fence.wide 8 Tryz.prog 25 #[] ([] : List (Int × En)) HandsOn S w0 := by
  intro ll J Jx W hll hJk hJs hJ hJx hround h0
  have H0 := Lib.hid h0
  clear hround hJk hJs hJ hJx h0
  refine callsIn_of_wp Tryz.func25 rfl trivial ?_ rfl
  simp only [Tryz.ntmps25, List.size_toArray, List.length_cons, List.length_nil, Nat.reduceAdd, Nat.reduceSub, Array.replicate_succ, Array.replicate_zero, List.push_toArray, List.append_toArray, List.nil_append, List.cons_append]
  gi_wp2_with fail
  refine bodyPost_end (results_none rfl _ _ _) rfl ?_
  exact ⟨⟨_, rfl⟩, .inl H0.out⟩
end Go.Proofs.YthhdgjofagdjeaaGreatDoor
end
section
/- A judge stands as the document's. Condition: both are the same one ('JudgeX', 'RefAt'), with a choir and members that may be. -/
set_option linter.unusedVariables false
set_option linter.unusedSimpArgs false
set_option maxHeartbeats 1000000
set_option maxRecDepth 100000
namespace Go.Proofs.YthhdgjofagdjeaaGreatDoor
open Go.RowKit
attribute [local go_sem] Oper.semAt_some
theorem Mem.callE {P : Program} {f : FuncId} {args : Array Value} {K : Ending → World → Prop} {F : Nat → Prop} {w0 w' wr : World} {L : List Res} (h : Mem F w0 w' L) (h2 : Ext wr w') (k : ∀ w, Mem F w0 w L → Ext wr w → Calls P f args w K) : Calls P f args w' K := k _ h h2
/-- what 'is' asks of a judge's numbers -/
structure Fits (J : JA) : Prop where
  n0 : 0 ≤ J.n
  n9 : J.n ≤ 9
  m0 : 0 ≤ J.m
  m16 : J.m ≤ 16
  len : J.T.l.length ≤ 4096
theorem atR_in {n : Nat} {f : Nat → Int} {k : Nat} {o : Int} (h : k < n) : atR n f (k : Int) o = f k := by
  unfold atR
  rw [if_pos (by omega)]
  rfl
theorem atR_out {n : Nat} {f : Nat → Int} {i : Int} {o : Int} (h : i < 0 ∨ (n : Int) ≤ i) : atR n f i o = o := by
  unfold atR
  rw [if_neg (by omega)]
theorem is_any {F A : Nat → Prop} (w : World) (b : Nat) (J : JA) (cs : List Value) (h : JudgeX w F b J) (hr : RefAt w A J cs) (hf : Fits J) :
    Calls Tryz.prog 18 #[.pointer (some ⟨b, 0, none⟩), .agg cs.toArray] w fun r w' => r = .returned (.bool true) ∧ Ext w w' := by
  have HJ := Lib.hid h
  have HF := Lib.hid hf
  have HM := Lib.hid (Mem.start0 w)
  obtain ⟨al, cl, ap, cp, hlen, hone, c0, c1, -, c3, cT, cN, -, c30, hvl, -⟩ := hr.open
  have HLEN := Lib.hid hlen
  have HONE := Lib.hid hone
  have HWD : Wd _ _ := ⟨HLEN.out, HONE.out⟩
  have HCT := Lib.hid cT
  have HCN := Lib.hid cN
  have HVL := Lib.hid hvl
  clear h hr hf hlen hone cT cN hvl
  refine (callsIn_wide (n := 9)).1 (callsIn_of_wp_marks Tryz.func18 rfl trivial ?_ rfl)
  simp only [Tryz.ntmps18, List.size_toArray, List.length_cons, List.length_nil, Nat.reduceAdd, Nat.reduceSub, Array.replicate_succ, Array.replicate_zero, List.push_toArray, List.append_toArray, List.nil_append, List.cons_append]
  refine wpIn_wide.2 ?_
  have fM := HM.out.fa
  go_wp2_with (first
    | ((with_reducible refine at_list ?_); first
      | ((with_reducible refine at_load 37 _ rfl ?_); refine ldW 37 _ rfl rfl rfl HM.out Tryz.underlying37 rfl infoRJ ?_)
      | ((first
        | ((with_reducible refine at_store 37 _ _ rfl ?_); refine stW 37 _ _ rfl rfl rfl rfl HM.out infoRJ ?_; intro w9 M)
        | ((with_reducible refine at_box 37 _ rfl ?_); refine boW 37 _ rfl rfl rfl HM.out ?_; intro w9 n9 M)
        | ((with_reducible refine at_alloc 37 rfl ?_); refine alW 37 rfl rfl (zeroRJ _) HM.out ?_; intro w9 n9 M)); replace HM := Lib.hid M; clear M; clear fM; have fM := HM.out.fa)))
  all_goals clear fM
  refine nxt HM fun w1 M => ?_
  clear HM; have HM := M; clear M
  refine (whole_any w1 b J (HJ.out.ext HM.out.extTo) HF.out.len).mono ?_
  rintro r w2 ⟨q, b', F', rfl, hq, hT', hE, hq0, hF'⟩
  replace HM := Lib.hid (HM.out.new (r := seqR q b' J.T) (G := fun k => k = q ∨ F' k) hE ⟨F', fun k => Iff.rfl, hq, hT'⟩ (fun k hk => by rcases hk with rfl | hk; exact hq0; exact hF' k hk))
  clear hq hT' hE hq0 hF'
  clear F'
  have fM := HM.out.fa
  go_wp2_with fail
  all_goals clear fM
  refine nxt HM fun w3 M => ?_
  clear HM; have HM := M; clear M
  obtain ⟨nb, hnb⟩ : ∃ nb, w9.heap.size + 1 = nb := ⟨_, rfl⟩
  rw [hnb] at HM
  rw [hnb]
  have hbb : w9.heap.size < nb := by omega
  clear hnb
  refine (wpIn_wide (n := 9)).1 ?_
  obtain ⟨A1, A2, hn1, ⟨F', hF1, hq2, hq3⟩, hd⟩ := HM.out.apart (r := cellsR nb 3 [.int .i64 0]) (r' := seqR q b' J.T) (by with_reducible repeat first | exact ph | apply pt) (by with_reducible repeat first | exact ph | apply pt)
  have BC := Lib.hid hn1.2
  have hnbl := hn1.2.lt
  have hSq : ¬ OneB nb q := fun h => hd nb ((hn1.1 nb).2 rfl) ((hF1 nb).2 (.inl (Eq.symm h)))
  have hSF : ∀ k, F' k → ¬ OneB nb k := fun k hk h => hd nb ((hn1.1 nb).2 rfl) ((hF1 nb).2 (.inr (by have h9 : k = nb := h; rw [← h9]; exact hk)))
  have HNB := Lib.hid hnbl
  refine wpIn_range rfl (by omega) (gf := 27) (lb := #[.pointer (some ⟨q, 0, none⟩)]) rfl trivial (enters_of Tryz.func27 (by kernel_rfl) rfl)
    (S := OneB nb) (iter_whole w3 q b' J.T hq2 hq3 hSq hSF HF.out.len) (by rintro x v W0 W rfl; rfl)
    (fun k W => Keeps (OneB nb) w3 W ∧ Box W nb 3 [.int .i64 (k : Int)]) (fun c k W => False) (fun k W h => h.1)
    (fun k W W' h hk => ⟨h.1.then hk (fun i hi h => by unfold OneB at h ⊢; omega), h.2.keeps hk (by unfold OneB; omega)⟩)
    (fun c k W W' h hk => h) ⟨Keeps.refl _ _, BC.out⟩ ?_ ?_ (fun c k W hk h => h.elim)
  all_goals clear hn1 hq2 hq3 hSq hSF hd hF1
  · skip
    rintro k hk v W0 W - hE0 ⟨hkW, hb0⟩ hv hlt0 hlt
    have hk' : k < J.T.l.length := by rw [wholeL_len] at hk; exact hk
    rw [wholeL_get] at hv
    unfold HandsOn at hv
    dsimp only at hv
    obtain ⟨y, hy⟩ : ∃ y, (J.T.l[k]).e = y := ⟨_, rfl⟩
    rw [hy] at hv
    unfold En.v at hv
    subst hv
    have HYE := Lib.hid hy
    have HKW := Lib.hid hkW
    have HB0 := Lib.hid hb0
    have h7W := hkW.size
    have hlk := HF.out.len
    clear hy hkW hb0 hE0
    gi_wp2_with fail
    refine ⟨(Keeps.refl _ _).alloc _, fun W2 hW2 => ?_⟩
    have e2 : Keeps (OneB nb) w3 W2 := (HKW.out.alloc _).then hW2 (fun i hi h => by unfold OneB at h; omega)
    have b0 := (HB0.out.alloc (Obj.cells #[.int .i64 y.kind, .int .i64 y.member, .int .i64 y.number, .string (bs y.text)] 54)).keeps hW2 (by unfold OneB; omega)
    have bx := (Box.new W 54 [.int .i64 y.kind, .int .i64 y.member, .int .i64 y.number, .string (bs y.text)]).keeps hW2 (by unfold OneB; omega)
    obtain ⟨A0, hA0, hS0⟩ := (HM.out.pick (r := cellsR nb 3 [.int .i64 0]) (by with_reducible repeat first | exact ph | apply pt)).step
    have HM9 := Lib.hid (hS0 (cellsR nb 3 [.int .i64 (k : Int)]) W2 ⟨A0, ⟨hA0.1, b0⟩, e2.mono (fun i _ h => (hA0.1 i).2 h), fun i h => .inl h⟩)
    clear HM
    have HM := HM9
    have HK2 := Lib.hid e2
    have HBX := Lib.hid bx
    clear HM9 hA0 hS0 b0 bx e2
    obtain ⟨g2, o2, rfl, hg2, f0, f1, f2, f3⟩ := ln_x (HVL.out.ext HM.out.extTo) k hk'
    rw [HYE.out] at f0 f1 f2 f3
    have g0 : decide (J.T.l.length ≤ k) = false := by simp; omega
    have g1 : (k : Int) < (J.T.l.length : Int) := by omega
    have g2' : ¬ (k : Int) < 0 := by omega
    have g3 : (k : Int) < 4096 := by omega
    have hq1 : ∀ W, (binOp .neq 54 (.agg #[.int .i64 y.kind, .int .i64 y.member, .int .i64 y.number, .string (bs y.text)]) (.agg #[.int .i64 y.kind, .int .i64 y.member, .int .i64 y.number, .string (bs y.text)])).run Tryz.prog W = .ok (.bool false) W := fun W => by rw [ne_en, decide_eq_true rfl]; rfl
    have n1 : ¬ nb = W.heap.size := by omega
    have n2 : ¬ W.heap.size = nb := by omega
    have fM := HM.out.fa
    obtain ⟨cHBX, zHBX⟩ := HBX.out.reads
    have lHBX := HBX.out.lt
    gi_wp2_with fail
    have hE0 : Keeps NoB W2 W2.drew := (Keeps.refl _ _).drew
    refine wpIn_region_plan [(3, 0), (0, 1), (0, 2), (3, 3), (0, 4), (0, 5), (0, 6), (0, 7), (3, 8), (0, 9), (0, 10), (0, 11), (3, 12), (0, 13), (0, 14), (3, 15), (3, 16), (0, 17), (0, 18), (3, 19), (0, 20), (0, 21)] [] [] [] (ClsE W2) (by kernel_rfl) (by rintro ⟨_, _, h⟩; exact h) (by kernel_rfl) (by kernel_rfl) (plan3 [0, 0, 2, 6, 14, 31, 63, 127, 127, 511, 1023, 2047, 4095, 4095, 12287, 28671, 4095, 126975, 258047, 520191, 1048575, 2097151] (by kernel_rfl) rfl (by kernel_rfl)) rfl rfl (ClsE.of hE0) (fun _ _ _ d _ h => by cases d <;> exact h) ?_; simp only [planL, nL]
    refine pX (v := ?_) rfl ?_ ?_; rotate_left; (go_simp <;> with_reducible rfl); simp only [nP]
    iterate 2 (refine pR (v := ?_) rfl (fun W => ?_) ?_; rotate_left; (go_simp <;> with_reducible rfl); simp only [nP])
    refine pX (v := ?_) rfl ?_ ?_; rotate_left; (go_simp <;> with_reducible rfl); simp only [nP]
    iterate 2 (refine pR (v := ?_) rfl (fun W => ?_) ?_; rotate_left; (go_simp <;> with_reducible rfl); simp only [nP])
    refine pM _ rfl rfl ?_; simp only [nP, nE]
    (first | (refine plan_skip rfl ?_; simp only [nP]) | (refine pM _ rfl rfl ?_; simp only [nP, nE]))
    (first | (refine plan_skip rfl ?_; simp only [nP]) | (refine pX (v := ?_) rfl ?_ ?_; rotate_left; (go_simp <;> with_reducible rfl); simp only [nP]))
    (first | (refine plan_skip rfl ?_; simp only [nP]) | (refine pR (v := ?_) rfl (fun W => ?_) ?_; rotate_left; (go_simp <;> with_reducible rfl); simp only [nP]))
    refine pR (v := ?_) rfl (fun W => ?_) ?_; rotate_left; (go_simp <;> with_reducible rfl); simp only [nP]
    refine pM _ rfl rfl ?_; simp only [nP, nE]
    (first | (refine plan_skip rfl ?_; simp only [nP]) | (refine pX (v := ?_) rfl ?_ ?_; rotate_left; (go_simp <;> with_reducible rfl); simp only [nP]))
    iterate 2 ((first | (refine plan_skip rfl ?_; simp only [nP]) | (refine pR (v := ?_) rfl (fun W => ?_) ?_; rotate_left; (go_simp <;> with_reducible rfl); simp only [nP])))
    iterate 2 ((first | (refine plan_skip rfl ?_; simp only [nP]) | (refine pX (v := ?_) rfl ?_ ?_; rotate_left; (go_simp <;> with_reducible rfl); simp only [nP])))
    iterate 2 ((first | (refine plan_skip rfl ?_; simp only [nP]) | (refine pR (v := ?_) rfl (fun W => ?_) ?_; rotate_left; (go_simp <;> with_reducible rfl); simp only [nP])))
    (first | (refine plan_skip rfl ?_; simp only [nP]) | (refine pX (v := ?_) rfl ?_ ?_; rotate_left; (go_simp <;> with_reducible rfl); simp only [nP]))
    (first | (refine plan_skip rfl ?_; simp only [nP]) | (refine pR (v := ?_) rfl (fun W => ?_) ?_; rotate_left; (go_simp <;> with_reducible rfl); simp only [nP]))
    refine pR (v := ?_) rfl (fun W => ?_) ?_; rotate_left; (go_simp <;> with_reducible rfl); simp only [nP]
    refine plan_nil ?_; simp only [tailL, List.filterMap_nil]
    go_wp2_with fail
    obtain ⟨Ahcn, hcn⟩ := HM.out.get (r := cellsR nb 3 [.int .i64 (k : Int)]) (by with_reducible repeat first | exact ph | apply pt)
    have HCN := Lib.hid hcn.2
    have HNL := Lib.hid (show nb < W2.heap.size from hcn.2.lt)
    clear hcn hE0
    try clear Ahcn
    gi_wp2_with fail
    refine ⟨?_, ?_, ?_⟩
    · skip
      repeat (first | exact Keeps.refl _ _ | exact HK2.out | refine Keeps.drew ?_ | refine Keeps.setCell ?_ _ _ (.inl (.inl ⟨HNB.out, rfl⟩)) | refine Keeps.setCell ?_ _ _ (.inl rfl))
    · skip
      repeat (first | exact Keeps.refl _ _ | exact HK2.out | refine Keeps.drew ?_ | refine Keeps.setCell ?_ _ _ (.inl (.inl ⟨HNB.out, rfl⟩)) | refine Keeps.setCell ?_ _ _ (.inl rfl))
    · have := (HCN.out.set 0 (.int .i64 ((k : Int) + 1))).drew
      simpa using this
  · intro W hW hm
    obtain ⟨hkW, hb0⟩ := hW
    rw [wholeL_len] at hb0
    obtain ⟨A0, hA0, hS0⟩ := (HM.out.pick (r := cellsR nb 3 [.int .i64 0]) (by with_reducible repeat first | exact ph | apply pt)).step
    have HM9 := Lib.hid (hS0 (sepR [cellsR nb 3 [.int .i64 (J.T.l.length : Int)], markR w3.heap.size]) W (upd_mark (hA0.1) hb0 hm hkW (HNB.out))).openSep2
    clear HM
    have HM := HM9
    clear HM9 hA0 hS0 hkW hb0 hm
    clear A0 A1 A2 F'
    obtain ⟨n, hn⟩ : ∃ n : Nat, J.n = n := ⟨J.n.toNat, by have := HF.out.n0; omega⟩
    obtain ⟨m, hm⟩ : ∃ n : Nat, J.m = n := ⟨J.m.toNat, by have := HF.out.m0; omega⟩
    have HN := Lib.hid hn
    have HMM := Lib.hid hm
    rw [hn] at c0
    rw [hm] at c1
    clear hn hm
    have fM := HM.out.fa
    go_wp2_with fail
    all_goals clear fM
    refine nxt HM fun w4 M => ?_
    clear HM; have HM := M; clear M
    have fM := HM.out.fa
    refine wp_region_noPanic ?_
    have hE0 : Keeps NoB w4 w4.drew := (Keeps.refl _ _).drew
    refine wp_region_plan [(3, 0), (0, 1), (0, 2), (3, 3), (0, 4), (0, 5), (0, 6), (0, 7), (0, 9), (1, 10), (2, 8), (0, 11), (0, 12), (0, 13), (0, 14), (2, 15), (0, 16), (0, 17), (0, 18), (0, 19), (0, 20), (1, 21), (2, 22), (0, 23), (0, 24), (0, 25), (0, 26), (2, 27), (0, 28), (0, 29), (0, 30), (0, 31), (0, 32), (1, 33)] [10, 21, 33] [8, 15, 22, 27, 34, 35, 36] [34, 35, 36] (ClsE w4) (by kernel_rfl) (by kernel_rfl) (plan3 [0, 0, 2, 6, 14, 31, 63, 127, 255, 127, 639, 2047, 4095, 8191, 16383, 32767, 65535, 131071, 262143, 524287, 524287, 1572863, 4194303, 8388607, 16777215, 33554431, 67108863, 134217727, 268435455, 536870911, 1073741823, 2147483647, 2147483647, 6442450943, 17179869183, 34359738367, 68719476735] (by kernel_rfl) rfl (by kernel_rfl)) rfl rfl (ClsE.of hE0) (fun _ _ _ _ _ h => h) ?_; simp only [planL, nL]
    refine pX (v := ?_) rfl ?_ ?_; rotate_left; (go_simp <;> with_reducible rfl); simp only [nP]
    iterate 2 (refine pR (v := ?_) rfl (fun W => ?_) ?_; rotate_left; (go_simp <;> with_reducible rfl); simp only [nP])
    refine pX (v := ?_) rfl ?_ ?_; rotate_left; (go_simp <;> with_reducible rfl); simp only [nP]
    iterate 2 (refine pR (v := ?_) rfl (fun W => ?_) ?_; rotate_left; (go_simp <;> with_reducible rfl); simp only [nP])
    refine pM _ rfl rfl ?_; simp only [nP, nE]
    (first | (refine plan_skip rfl ?_; simp only [nP]) | (refine pM _ rfl rfl ?_; simp only [nP, nE]))
    (first | (refine plan_skip rfl ?_; simp only [nP]) | (refine pR (v := ?_) rfl (fun W => ?_) ?_; rotate_left; (go_simp <;> with_reducible rfl); simp only [nP]))
    (first | (refine plan_skip rfl ?_; simp only [nP]) | (refine pL (v := ?_) rfl (fun W => ?_) ?_; rotate_left; (go_simp <;> with_reducible rfl); simp only [nP]))
    (first | (refine plan_skip rfl ?_; simp only [nP]) | (refine plan_does rfl (fun K hK => ?_)))
    go_wp2_with fail
    skip
    refine Mem.callE (wr := w4) HM.out.to (by repeat (first | assumption | exact Keeps.refl _ _ | with_reducible apply Keeps.drew | with_reducible apply Keeps.alloc)) fun w5 M hE5 => ?_
    replace HM := Lib.hid M
    clear M
    refine (judge_broken w5 b J (HJ.out.ext HM.out.extTo)).mono ?_
    rintro r w6 ⟨rfl, rfl⟩
    refine hK _ _ ⟨ClsE.of (by assumption), ?_⟩; clear hK K; try simp only [nP]
    (first | (refine plan_skip rfl ?_; simp only [nP]) | (refine pR (v := ?_) rfl (fun W => ?_) ?_; rotate_left; (go_simp <;> with_reducible rfl); simp only [nP]))
    refine pR (v := ?_) rfl (fun W => ?_) ?_; rotate_left; (go_simp <;> with_reducible rfl); simp only [nP]
    refine pM _ rfl rfl ?_; simp only [nP, nE]
    (first | (refine plan_skip rfl ?_; simp only [nP]) | (refine pM _ rfl rfl ?_; simp only [nP, nE]))
    (first | (refine plan_skip rfl ?_; simp only [nP]) | (refine plan_does rfl (fun K hK => ?_)))
    go_wp2_with fail
    skip
    refine Mem.callE (wr := w4) HM.out.to (by repeat (first | assumption | exact Keeps.refl _ _ | with_reducible apply Keeps.drew | with_reducible apply Keeps.alloc)) fun w5 M hE5 => ?_
    replace HM := Lib.hid M
    clear M
    refine (place_any w5 b J (-1) (HJ.out.ext HM.out.extTo) HF.out.n0 HF.out.n9).mono ?_
    rintro r w6 ⟨rfl, hE⟩
    rw [atR_out (.inl (by omega))]
    replace HM := Lib.hid (HM.out.ext hE)
    have hE6 := hE5.ext hE
    clear hE hE5
    refine hK _ _ ⟨ClsE.of (by assumption), ?_⟩; clear hK K; try simp only [nP]
    (first | (refine plan_skip rfl ?_; simp only [nP]) | (refine pR (v := ?_) rfl (fun W => ?_) ?_; rotate_left; (go_simp <;> with_reducible rfl); simp only [nP]))
    refine pR (v := ?_) rfl (fun W => ?_) ?_; rotate_left; (go_simp <;> with_reducible rfl); simp only [nP]
    refine pM _ rfl rfl ?_; simp only [nP, nE]
    (first | (refine plan_skip rfl ?_; simp only [nP]) | (refine pM _ rfl rfl ?_; simp only [nP, nE]))
    (first | (refine plan_skip rfl ?_; simp only [nP]) | (refine pR (v := ?_) rfl (fun W => ?_) ?_; rotate_left; (go_simp <;> with_reducible rfl); simp only [nP]))
    (first | (refine plan_skip rfl ?_; simp only [nP]) | (refine pL (v := ?_) rfl (fun W => ?_) ?_; rotate_left; (go_simp <;> with_reducible rfl); simp only [nP]))
    (first | (refine plan_skip rfl ?_; simp only [nP]) | (refine plan_does rfl (fun K hK => ?_)))
    go_wp2_with fail
    skip
    refine Mem.callE (wr := w4) HM.out.to (by repeat (first | assumption | exact Keeps.refl _ _ | with_reducible apply Keeps.drew | with_reducible apply Keeps.alloc)) fun w5 M hE5 => ?_
    replace HM := Lib.hid M
    clear M
    refine (place_any w5 b J (n : Int) (HJ.out.ext HM.out.extTo) HF.out.n0 HF.out.n9).mono ?_
    rintro r w6 ⟨rfl, hE⟩
    rw [atR_out (.inr (by rw [HN.out]; exact Int.le_refl _))]
    replace HM := Lib.hid (HM.out.ext hE)
    have hE6 := hE5.ext hE
    clear hE hE5
    refine hK _ _ ⟨ClsE.of (by assumption), ?_⟩; clear hK K; try simp only [nP]
    (first | (refine plan_skip rfl ?_; simp only [nP]) | (refine pR (v := ?_) rfl (fun W => ?_) ?_; rotate_left; (go_simp <;> with_reducible rfl); simp only [nP]))
    refine pR (v := ?_) rfl (fun W => ?_) ?_; rotate_left; (go_simp <;> with_reducible rfl); simp only [nP]
    refine pM _ rfl rfl ?_; simp only [nP, nE]
    (first | (refine plan_skip rfl ?_; simp only [nP]) | (refine pM _ rfl rfl ?_; simp only [nP, nE]))
    (first | (refine plan_skip rfl ?_; simp only [nP]) | (refine plan_does rfl (fun K hK => ?_)))
    go_wp2_with fail
    skip
    refine Mem.callE (wr := w4) HM.out.to (by repeat (first | assumption | exact Keeps.refl _ _ | with_reducible apply Keeps.drew | with_reducible apply Keeps.alloc)) fun w5 M hE5 => ?_
    replace HM := Lib.hid M
    clear M
    refine (member_any w5 b J (-1) (HJ.out.ext HM.out.extTo) HF.out.m0 HF.out.m16).mono ?_
    rintro r w6 ⟨rfl, hE⟩
    rw [atR_out (.inl (by omega))]
    replace HM := Lib.hid (HM.out.ext hE)
    have hE6 := hE5.ext hE
    clear hE hE5
    refine hK _ _ ⟨ClsE.of (by assumption), ?_⟩; clear hK K; try simp only [nP]
    (first | (refine plan_skip rfl ?_; simp only [nP]) | (refine pR (v := ?_) rfl (fun W => ?_) ?_; rotate_left; (go_simp <;> with_reducible rfl); simp only [nP]))
    refine pR (v := ?_) rfl (fun W => ?_) ?_; rotate_left; (go_simp <;> with_reducible rfl); simp only [nP]
    refine pM _ rfl rfl ?_; simp only [nP, nE]
    (first | (refine plan_skip rfl ?_; simp only [nP]) | (refine pM _ rfl rfl ?_; simp only [nP, nE]))
    (first | (refine plan_skip rfl ?_; simp only [nP]) | (refine pR (v := ?_) rfl (fun W => ?_) ?_; rotate_left; (go_simp <;> with_reducible rfl); simp only [nP]))
    (first | (refine plan_skip rfl ?_; simp only [nP]) | (refine pL (v := ?_) rfl (fun W => ?_) ?_; rotate_left; (go_simp <;> with_reducible rfl); simp only [nP]))
    refine plan_nil ?_; simp only [tailL, List.filterMap_cons, List.filterMap_nil, nL]; change wpList _ _ _ (_ :: _ :: _ :: []) _ _
    go_wp2_with fail
    skip
    refine Mem.callE (wr := w4) HM.out.to (by repeat (first | assumption | exact Keeps.refl _ _ | with_reducible apply Keeps.drew | with_reducible apply Keeps.alloc)) fun w5 M hE5 => ?_
    replace HM := Lib.hid M
    clear M
    refine (member_any w5 b J (m : Int) (HJ.out.ext HM.out.extTo) HF.out.m0 HF.out.m16).mono ?_
    rintro r w6 ⟨rfl, hE⟩
    rw [atR_out (.inr (by rw [HMM.out]; exact Int.le_refl _))]
    replace HM := Lib.hid (HM.out.ext hE)
    have hE6 := hE5.ext hE
    clear hE hE5
    clear fM
    try clear hE6
    have fM := HM.out.fa
    go_wp2_with fail
    all_goals clear fM
    refine NoPanic.ok ?_
    have fM := HM.out.fa
    go_wp2_with fail
    all_goals clear fM
    clear hE0
    go_loopw [8] (fun i wr => ∃ k : Nat, k ≤ n ∧ i = .int .i64 k ∧ Hid (Mem NoB w wr [cellsR n9 37 cs, cellsR w9.heap.size 4 [.bool false], markR w3.heap.size])) (fun i _ => n - (intOf i).toNat)
    case atStart =>
      refine ⟨0, Nat.zero_le _, rfl, Lib.hid ?_⟩
      exact Mem.sub HM.out (by repeat first | exact Sub.nil | refine Sub.cons (by with_reducible repeat first | exact ph | apply pt) ?_)
    case round =>
      clear HM
      obtain ⟨k, hk, rfl, HM⟩ := hrel
      by_cases hlt : k < n
      · have hn9 := HF.out.n9
        rw [HN.out] at hn9
        have g1 : (k : Int) < (n : Int) := by omega
        have g2 : ¬ (k : Int) < 0 := by omega
        have g3 : (k : Int) < 9 := by omega
        have ck := HCT.out k (by omega)
        have fM := HM.out.fa
        go_wp2_with fail
        refine wp_region_noPanic ?_
        have hE0 : Keeps NoB wr wr.drew := (Keeps.refl _ _).drew
        refine wp_region_plan [(0, 0), (0, 1), (0, 3), (0, 4), (0, 5), (1, 6), (2, 2), (0, 7)] [6] [2] [] (ClsE wr) (by kernel_rfl) (by kernel_rfl) (by kernel_rfl) rfl rfl (ClsE.of hE0) (fun _ _ _ _ _ h => h) ?_; simp only [planL, nL]
        iterate 3 (refine pM _ rfl rfl ?_; simp only [nP, nE])
        iterate 2 (refine pR (v := ?_) rfl (fun W => ?_) ?_; rotate_left; (go_simp <;> with_reducible rfl); simp only [nP])
        refine pL (v := ?_) rfl (fun W => ?_) ?_; rotate_left; (go_simp <;> with_reducible rfl); simp only [nP]
        refine plan_does rfl (fun K hK => ?_)
        go_wp2_with fail
        skip
        refine Mem.callE (wr := wr) HM.out.to (by repeat (first | assumption | exact Keeps.refl _ _ | with_reducible apply Keeps.drew | with_reducible apply Keeps.alloc)) fun w5 M hE5 => ?_
        replace HM := Lib.hid M
        clear M
        refine (place_any w5 b J (k : Int) (HJ.out.ext HM.out.extTo) HF.out.n0 HF.out.n9).mono ?_
        rintro r w6 ⟨rfl, hE⟩
        rw [atR_in (by rw [HN.out]; exact hlt)]
        replace HM := Lib.hid (HM.out.ext hE)
        have hE6 := hE5.ext hE
        clear hE hE5
        refine hK _ _ ⟨ClsE.of (by assumption), ?_⟩; clear hK K; try simp only [nP]
        refine pR (v := ?_) rfl (fun W => ?_) ?_; rotate_left; (go_simp <;> with_reducible rfl); simp only [nP]
        refine plan_nil ?_; simp only [tailL, List.filterMap_nil]
        clear fM
        try clear hE6
        have fM := HM.out.fa
        go_wp2_with fail
        all_goals clear fM
        refine NoPanic.ok ?_
        have fM := HM.out.fa
        go_wp2_with fail
        all_goals clear fM
        go_roundw
        case rel =>
          refine ⟨k + 1, by omega, by go_num, Lib.hid ?_⟩
          apply Mem.mem
          · skip
            exact HM.out.to
          intro w8 M
          exact Mem.sub M (by repeat first | exact Sub.nil | refine Sub.cons (by with_reducible repeat first | exact ph | apply pt) ?_)
        case measure => simp [intOf]; omega
      · have g1 : ¬ (k : Int) < (n : Int) := by omega
        clear hlt hk
        have fM := HM.out.fa
        go_wp2_with fail
        all_goals clear fM
        go_loopw [9] (fun i wr => ∃ k : Nat, k ≤ m ∧ i = .int .i64 k ∧ Hid (Mem NoB w wr [cellsR n9 37 cs, cellsR w9.heap.size 4 [.bool false], markR w3.heap.size])) (fun i _ => m - (intOf i).toNat)
        case atStart =>
          refine ⟨0, Nat.zero_le _, rfl, Lib.hid ?_⟩
          exact Mem.sub HM.out (by repeat first | exact Sub.nil | refine Sub.cons (by with_reducible repeat first | exact ph | apply pt) ?_)
        case round =>
          clear HM
          obtain ⟨k, hk, rfl, HM⟩ := hrel
          by_cases hlt : k < m
          · have hn9 := HF.out.m16
            rw [HMM.out] at hn9
            have g1 : (k : Int) < (m : Int) := by omega
            have g2 : ¬ (k : Int) < 0 := by omega
            have g3 : (k : Int) < 16 := by omega
            have ck := HCN.out k (by omega)
            have fM := HM.out.fa
            go_wp2_with fail
            refine wp_region_noPanic ?_
            have hE0 : Keeps NoB wr wr.drew := (Keeps.refl _ _).drew
            refine wp_region_plan [(0, 0), (0, 1), (0, 3), (0, 4), (0, 5), (1, 6), (2, 2), (0, 7)] [6] [2] [] (ClsE wr) (by kernel_rfl) (by kernel_rfl) (by kernel_rfl) rfl rfl (ClsE.of hE0) (fun _ _ _ _ _ h => h) ?_; simp only [planL, nL]
            iterate 3 (refine pM _ rfl rfl ?_; simp only [nP, nE])
            iterate 2 (refine pR (v := ?_) rfl (fun W => ?_) ?_; rotate_left; (go_simp <;> with_reducible rfl); simp only [nP])
            refine pL (v := ?_) rfl (fun W => ?_) ?_; rotate_left; (go_simp <;> with_reducible rfl); simp only [nP]
            refine plan_does rfl (fun K hK => ?_)
            go_wp2_with fail
            skip
            refine Mem.callE (wr := wr) HM.out.to (by repeat (first | assumption | exact Keeps.refl _ _ | with_reducible apply Keeps.drew | with_reducible apply Keeps.alloc)) fun w5 M hE5 => ?_
            replace HM := Lib.hid M
            clear M
            refine (member_any w5 b J (k : Int) (HJ.out.ext HM.out.extTo) HF.out.m0 HF.out.m16).mono ?_
            rintro r w6 ⟨rfl, hE⟩
            rw [atR_in (by rw [HMM.out]; exact hlt)]
            replace HM := Lib.hid (HM.out.ext hE)
            have hE6 := hE5.ext hE
            clear hE hE5
            refine hK _ _ ⟨ClsE.of (by assumption), ?_⟩; clear hK K; try simp only [nP]
            refine pR (v := ?_) rfl (fun W => ?_) ?_; rotate_left; (go_simp <;> with_reducible rfl); simp only [nP]
            refine plan_nil ?_; simp only [tailL, List.filterMap_nil]
            clear fM
            try clear hE6
            have fM := HM.out.fa
            go_wp2_with fail
            all_goals clear fM
            refine NoPanic.ok ?_
            have fM := HM.out.fa
            go_wp2_with fail
            all_goals clear fM
            go_roundw
            case rel =>
              refine ⟨k + 1, by omega, by go_num, Lib.hid ?_⟩
              apply Mem.mem
              · skip
                exact HM.out.to
              intro w8 M
              exact Mem.sub M (by repeat first | exact Sub.nil | refine Sub.cons (by with_reducible repeat first | exact ph | apply pt) ?_)
            case measure => simp [intOf]; omega
          · have g1 : ¬ (k : Int) < (m : Int) := by omega
            clear hlt hk
            have fM := HM.out.fa
            go_wp2_with fail
            all_goals clear fM
            refine nxt HM fun w8 M => ?_
            clear HM; have HM := M; clear M
            obtain ⟨B1, B2, q1, q2, q3⟩ := HM.out.apart (r := cellsR w9.heap.size 4 [.bool true]) (r' := markR w3.heap.size) (by with_reducible repeat first | exact ph | apply pt) (by with_reducible repeat first | exact ph | apply pt)
            have d1 : w9.heap.size ≠ w3.heap.size := fun h => q3 _ ((q1.1 _).2 rfl) ((q2.1 _).2 h)
            refine leaves_marks [w3.heap.size] _ (by simp) ?_ ?_
            · intro D hD
              simp only [List.mem_cons, List.not_mem_nil, or_false] at hD
              obtain rfl := hD
              exact q2.2
            · intro w' hk
              have q0 := (q1.2.keeps hk (by simp; omega)).reads.1
              obtain ⟨G1, g1, -, g2⟩ := (HM.out.pick (r := markR w3.heap.size) (by with_reducible repeat first | exact ph | apply pt)).upd
              have e1 : w.heap.size ≤ w3.heap.size := (g2 _ ((g1.1 _).2 rfl)).resolve_left (noB _)
              refine ⟨.bool true, by simp [results, Tryz.results18, go_sem, q0], rfl, ?_⟩
              refine HM.out.extTo.then hk fun i hi h => ?_
              simp only [List.mem_cons, List.not_mem_nil, or_false] at h
              omega
end Go.Proofs.YthhdgjofagdjeaaGreatDoor
end
