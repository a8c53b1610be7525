/- Texts DU, one behind the other. Conditions: as each says. -/
import Derived.Test.YtoadjbgpfihoiaaGreatDoorRaZ
set_option linter.unusedVariables false
set_option linter.unusedSimpArgs false
set_option maxHeartbeats 8000000
set_option maxRecDepth 100000
namespace Go.Proofs.YtoadjbgpfihoiaaGreatDoor
open Go.RowKit
section
def BesPost (w : World) (A : Nat → Prop) (s : Ss) (x : Sd) (r : Ending) (w' : World) : Prop := ∃ v', r = .returned (.tuple #[v', .int .i64 (s.beside x).2.1, .int .i64 (s.beside x).2.2]) ∧ DocPost w A (s.beside x).1 v' w'
theorem dbes_other {A : Nat → Prop} (w : World) (v : Value) (s : Ss) (x : Sd) (hk : besK x.kind = false) (h : DocAt w A v s) :
 Calls Tryz.prog 82 #[v, x.v] w (BesPost w A s x) := by
 obtain ⟨a, c, p, q, rfl, h1, h2⟩ := h
 have HM := Lib.hid (Mem.start0 w)
 have H1 := Lib.hid h1
 have H2 := Lib.hid h2
 clear h1 h2
 have HV := Lib.hid (show x.v = .agg x.cells.toArray from rfl)
 have ho : s.beside x = (s, 0, 2) := by unfold Ss.beside; rw [if_pos (show Ss.besOk x = false by show (besK x.kind && sdB x) = false; rw [hk]; rfl)]
 unfold BesPost
 rw [ho]
 unfold besK at hk
 simp only [Bool.or_eq_false_iff, decide_eq_false_iff_not] at hk
 have g1 : (x.kind != 10) = true := by simpa using hk.1
 have g2 : (x.kind != 11) = true := by simpa using hk.2
 have g3 : (x.kind == 10) = false := by simpa using hk.1
 have g4 : (x.kind == 11) = false := by simpa using hk.2
 clear ho hk
 rw [HV.out]
 unfold Sd.cells
 go_enter Tryz.func82, Tryz.ntmps82
 have fM := HM.out.fa
 go_wp2_with ((with_reducible refine at_list ?_); first | ((with_reducible refine at_load 73 _ rfl ?_); refine ldW 73 _ rfl rfl rfl HM.out Tryz.underlying73 rfl infoDS ?_) | ((first | ((with_reducible refine at_store 73 _ _ rfl ?_); refine stW 73 _ _ rfl rfl rfl rfl HM.out infoDS ?_; intro w9 M) | ((with_reducible refine at_box 73 _ rfl ?_); refine boW 73 _ rfl rfl rfl HM.out ?_; intro w9 n9 M) | ((with_reducible refine at_alloc 73 rfl ?_); refine alW 73 rfl rfl (zeroDS _) HM.out ?_; intro w9 n9 M)); replace HM := Lib.hid M; clear M; clear fM; have fM := HM.out.fa))
 all_goals clear fM
 refine nxt HM fun wz M => ?_
 clear HM; have HM := M; clear M
 refine bodyPost_ret (results_ctt rfl _ rfl (loadVar_wide 73 HM.out (by with_reducible repeat first | exact ph | apply pt) Tryz.underlying73 rfl (by exact infoDS))) rfl ?_
 exact ⟨_, rfl, ⟨_, _, _, _, rfl, (H1.out.itExt HM.out.extTo).itMono (fun k h => .inl h), (H2.out.ext HM.out.extTo).mono (fun k h => .inl h)⟩, HM.out.extTo⟩
theorem dbes_10 {A : Nat → Prop} (W w : World) (hT : Tabs W) (hE : Ext W w) (v : Value) (s : Ss) (n : Nat) (hok : OkSs s n) (hn : n ≤ 1000000) (x : Sd) (hk : x.kind = 10) (hl : x.text.length ≤ 300 ∧ x.token.length ≤ 300 ∧ x.e.text.length ≤ 300) (h : DocAt w A v s) (hA : ∀ k, A k → k < w.heap.size) :
 Calls Tryz.prog 82 #[v, x.v] w (BesPost w A s x) := by
 obtain ⟨a, c, p, q, rfl, h1, h2⟩ := h
 have HM := Lib.hid (Mem.start0 w)
 have H1 := Lib.hid h1
 have H2 := Lib.hid h2
 clear h1 h2
 have HV := Lib.hid (show x.v = .agg x.cells.toArray from rfl)
 have HE := Lib.hid hE
 have HOK := Lib.hid hok
 have HA := Lib.hid hA
 have HL := Lib.hid hl
 clear hE hok hA
 unfold BesPost
 obtain ⟨xk, m, nu, ix, is, tx, tk, e⟩ := x
 dsimp only at hk hl HV HL
 subst hk
 cases hsd : sdB ⟨10, m, nu, ix, is, tx, tk, e⟩ with
 | false =>
   have HSD := Lib.hid hsd
   have ho : s.beside ⟨10, m, nu, ix, is, tx, tk, e⟩ = (s, 0, 2) := by
    unfold Ss.beside
    rw [if_pos (show Ss.besOk ⟨10, m, nu, ix, is, tx, tk, e⟩ = false by show (besK 10 && sdB _) = false; rw [hsd]; rfl)]
   rw [ho]
   clear ho hsd
   rw [HV.out]
   unfold Sd.cells
   go_enter Tryz.func82, Tryz.ntmps82
   have fM := HM.out.fa
   go_wp2_with ((with_reducible refine at_list ?_); ((first | ((with_reducible refine at_box 73 _ rfl ?_); refine boW 73 _ rfl rfl rfl HM.out ?_; intro w9 n9 M) | ((with_reducible refine at_alloc 73 rfl ?_); refine alW 73 rfl rfl (zeroDS _) HM.out ?_; intro w9 n9 M)); replace HM := Lib.hid M; clear M; clear fM; have fM := HM.out.fa))
   all_goals clear fM
   refine nxt HM fun w1 M => ?_
   clear HM; have HM := M; clear M
   rw [← HV.out]
   refine (docRight_any W w1 hT (HE.out.ext HM.out.extTo) ⟨10, m, nu, ix, is, tx, tk, e⟩ ⟨by dsimp only; omega, by dsimp only; omega, by dsimp only; omega⟩).mono ?_
   rintro r w2 ⟨rfl, hE2⟩
   rw [HSD.out]
   replace HM := Lib.hid (HM.out.ext hE2)
   clear hE2
   rw [HV.out]
   unfold Sd.cells
   have fM := HM.out.fa
   go_wp2_with ((with_reducible refine at_list ?_); first | ((with_reducible refine at_load 73 _ rfl ?_); refine ldW 73 _ rfl rfl rfl HM.out Tryz.underlying73 rfl infoDS ?_) | (((with_reducible refine at_store 73 _ _ rfl ?_); refine stW 73 _ _ rfl rfl rfl rfl HM.out infoDS ?_; intro w9 M); replace HM := Lib.hid M; clear M; clear fM; have fM := HM.out.fa))
   all_goals clear fM
   refine nxt HM fun wz M => ?_
   clear HM; have HM := M; clear M
   refine bodyPost_ret (results_ctt rfl _ rfl (loadVar_wide 73 HM.out (by with_reducible repeat first | exact ph | apply pt) Tryz.underlying73 rfl (by exact infoDS))) rfl ?_
   exact ⟨_, rfl, ⟨_, _, _, _, rfl, (H1.out.itExt HM.out.extTo).itMono (fun k h => .inl h), (H2.out.ext HM.out.extTo).mono (fun k h => .inl h)⟩, HM.out.extTo⟩
 | true =>
   have HSD := Lib.hid hsd
   have hbo : Ss.besOk ⟨10, m, nu, ix, is, tx, tk, e⟩ = true := by show (besK 10 && sdB _) = true; rw [hsd]; rfl
   have hbn : ¬ Ss.besOk ⟨10, m, nu, ix, is, tx, tk, e⟩ = false := by rw [hbo]; decide
   have HMB := Lib.hid (sd_member (x := ⟨10, m, nu, ix, is, tx, tk, e⟩) hbo)
   cases hc : s.closed with
   | true =>
     have ho : s.beside ⟨10, m, nu, ix, is, tx, tk, e⟩ = (s, 0, 360) := by unfold Ss.beside; rw [if_neg hbn, if_pos hc]
     rw [ho]
     clear ho hsd hbo hbn
     rw [HV.out]
     unfold Sd.cells
     go_enter Tryz.func82, Tryz.ntmps82
     have fM := HM.out.fa
     go_wp2_with ((with_reducible refine at_list ?_); ((first | ((with_reducible refine at_box 73 _ rfl ?_); refine boW 73 _ rfl rfl rfl HM.out ?_; intro w9 n9 M) | ((with_reducible refine at_alloc 73 rfl ?_); refine alW 73 rfl rfl (zeroDS _) HM.out ?_; intro w9 n9 M)); replace HM := Lib.hid M; clear M; clear fM; have fM := HM.out.fa))
     all_goals clear fM
     refine nxt HM fun w1 M => ?_
     clear HM; have HM := M; clear M
     rw [← HV.out]
     refine (docRight_any W w1 hT (HE.out.ext HM.out.extTo) ⟨10, m, nu, ix, is, tx, tk, e⟩ ⟨by dsimp only; omega, by dsimp only; omega, by dsimp only; omega⟩).mono ?_
     rintro r w2 ⟨rfl, hE2⟩
     rw [HSD.out]
     replace HM := Lib.hid (HM.out.ext hE2)
     clear hE2
     rw [HV.out]
     unfold Sd.cells
     have fM := HM.out.fa
     go_wp2_with ((with_reducible refine at_list ?_); first | ((with_reducible refine at_load 73 _ rfl ?_); refine ldW 73 _ rfl rfl rfl HM.out Tryz.underlying73 rfl infoDS ?_) | (((with_reducible refine at_store 73 _ _ rfl ?_); refine stW 73 _ _ rfl rfl rfl rfl HM.out infoDS ?_; intro w9 M); replace HM := Lib.hid M; clear M; clear fM; have fM := HM.out.fa))
     all_goals clear fM
     refine nxt HM fun wz M => ?_
     clear HM; have HM := M; clear M
     refine bodyPost_ret (results_ctt rfl _ rfl (loadVar_wide 73 HM.out (by with_reducible repeat first | exact ph | apply pt) Tryz.underlying73 rfl (by exact infoDS))) rfl ?_
     exact ⟨_, rfl, ⟨_, _, _, _, rfl, (H1.out.itExt HM.out.extTo).itMono (fun k h => .inl h), (H2.out.ext HM.out.extTo).mono (fun k h => .inl h)⟩, HM.out.extTo⟩
   | false =>
     have hcf : ¬ s.closed = true := by rw [hc]; decide
     obtain ⟨b, hbe⟩ : ∃ b, rawS ⟨10, m, nu, ix, is, tx, tk, e⟩ = b := ⟨_, rfl⟩
     have hrl := raw_len _ hsd
     rw [hbe] at hrl
     have hks : Ss.keyS ⟨10, m, nu, ix, is, tx, tk, e⟩ = m := by unfold Ss.keyS; simp
     obtain ⟨⟨R', n1, e1⟩, hp⟩ : ∃ p, s.ring.put ⟨true, m, b⟩ = p := ⟨_, rfl⟩
     have hpm := put_most s.ring ⟨true, m, b⟩
     rw [hp] at hpm
     dsimp only at hpm
     have HPM := Lib.hid hpm
     have ho : s.beside ⟨10, m, nu, ix, is, tx, tk, e⟩ = ({ s with ring := R' }, (n1 : Int), 0) := by
      unfold Ss.beside; rw [if_neg hbn, if_neg hcf, hks, hbe, hp]
     rw [ho]
     have HP := Lib.hid hp
     have HBE := Lib.hid hbe
     have HRL := Lib.hid hrl
     have HCC := Lib.hid hc
     clear ho hsd hbo hbn hcf hp hbe hrl hpm hks
     rw [HV.out]
     unfold Sd.cells
     go_enter Tryz.func82, Tryz.ntmps82
     have fM := HM.out.fa
     go_wp2_with ((with_reducible refine at_list ?_); ((first | ((with_reducible refine at_box 73 _ rfl ?_); refine boW 73 _ rfl rfl rfl HM.out ?_; intro w9 n9 M) | ((with_reducible refine at_alloc 73 rfl ?_); refine alW 73 rfl rfl (zeroDS _) HM.out ?_; intro w9 n9 M)); replace HM := Lib.hid M; clear M; clear fM; have fM := HM.out.fa))
     all_goals clear fM
     refine nxt HM fun w1 M => ?_
     clear HM; have HM := M; clear M
     rw [← HV.out]
     refine (docRight_any W w1 hT (HE.out.ext HM.out.extTo) ⟨10, m, nu, ix, is, tx, tk, e⟩ ⟨by dsimp only; omega, by dsimp only; omega, by dsimp only; omega⟩).mono ?_
     rintro r w2 ⟨rfl, hE2⟩
     rw [HSD.out]
     replace HM := Lib.hid (HM.out.ext hE2)
     clear hE2
     rw [HV.out]
     unfold Sd.cells
     have fM := HM.out.fa
     go_wp2_with fail
     all_goals clear fM
     refine nxt HM fun w3 M => ?_
     clear HM; have HM := M; clear M
     have fM := HM.out.fa
     have hE0 : Keeps NoB w3 w3.drew := (Keeps.refl _ _).drew
     refine wp_region_forks [1, 3] [4, 6, 11, 12, 13, 14] (ClsE w3) (by kernel_rfl) ?_
     refine any_seg (L := #[true, true, true, true, false, false, false, false, false, false, false, false, false, false, false]) [(0, 0), (1, 1), (0, 2), (1, 3)] 11 (by kernel_rfl) (fun _ _ _ d _ h => by cases d <;> exact h) (by kernel_rfl) (by kernel_rfl) rfl rfl (ClsE.of (by repeat (first | assumption | exact Keeps.refl _ _ | refine Keeps.alloc ?_ _ | refine Keeps.setOne ?_ _ _ | refine Keeps.setCell ?_ _ _ (.inl (by first | rfl | exact .inl rfl | exact .inr rfl | omega)) | refine Keeps.drew ?_))) ?_; simp only [planL, nL]
     iterate 4 (first | (refine pM _ rfl rfl ?_; simp only [nP, nE]) | (refine pR (by rfl) (fun W => by go_simp <;> with_reducible rfl) ?_; simp only [nP]) | (refine pL (by rfl) (fun W => by go_simp <;> with_reducible rfl) ?_; simp only [nP]))
     refine plan_nil ?_
     refine any_fork 4 11 (by kernel_rfl) (by kernel_rfl) rfl rfl rfl rfl (fun K hK => ?_) (fun K hK => ?_)
     · skip
       go_wp2_with fail
       skip
       refine Mem.callE (wr := w3) HM.out.to (by repeat (first | assumption | exact Keeps.refl _ _ | with_reducible apply Keeps.drew | with_reducible apply Keeps.alloc)) fun w4 M hE4 => ?_
       replace HM := Lib.hid M
       clear M
       refine (docRaw_any w4 ⟨10, m, nu, ix, is, tx, tk, e⟩ HSD.out ⟨HL.out.1, HL.out.2.2, HL.out.2.1⟩).mono ?_
       rintro r w5 ⟨v5, rfl, hU⟩
       have hE5 := hE4.ext hU.keepsTo
       rw [show frameL (bodyL ⟨10, m, nu, ix, is, tx, tk, e⟩) = b from HBE.out] at hU
       replace HM := Lib.hid (HM.out.newU hU)
       obtain ⟨a5, c5, rfl⟩ := HM.out.fact fun A h => bytR.len h
       clear hU hE4
       clear w4
       refine hK _ _ ⟨ClsE.of (by assumption), ?_⟩; clear hK K; try simp only [nP]
       refine any_seg (L := #[true, true, true, true, true, true, false, false, false, false, false, false, false, false, false]) [(0, 5)] 9 (by kernel_rfl) (fun _ _ _ d _ h => by cases d <;> exact h) (by kernel_rfl) (by kernel_rfl) rfl rfl (ClsE.of (by repeat (first | assumption | exact Keeps.refl _ _ | refine Keeps.alloc ?_ _ | refine Keeps.setOne ?_ _ _ | refine Keeps.setCell ?_ _ _ (.inl (by first | rfl | exact .inl rfl | exact .inr rfl | omega)) | refine Keeps.drew ?_))) ?_; simp only [planL, nL]
       refine pR rfl (fun W => by go_simp <;> with_reducible rfl) ?_; simp only [nP]
       refine plan_nil ?_
       refine any_fork 6 11 (by kernel_rfl) (by kernel_rfl) rfl rfl rfl rfl (fun K hK => ?_) (fun K hK => ?_)
       · skip
         go_wp2_with fail
         skip
         refine Mem.callE (wr := w3) HM.out.to (by repeat (first | assumption | exact Keeps.refl _ _ | with_reducible apply Keeps.drew | with_reducible apply Keeps.alloc)) fun w6 M hE6 => ?_
         replace HM := Lib.hid M
         clear M
         refine (rput_any w6 _ _ s.ring ⟨true, m, b⟩ ⟨_, rfl, H1.out.itExt HM.out.extTo⟩ ⟨_, rfl, HM.out.newBytes (v := .slice a5 b.length c5) (l := b) pk⟩ (by have := HOK.out.len; have := HOK.out.most; omega) (by have := HOK.out.most; omega) (Nat.le_trans HOK.out.lost hn) (by have := HRL.out; dsimp only; omega) (fun k hk => Nat.lt_of_lt_of_le (HA.out k hk) HM.out.extTo.size) (fun k hk => hk.2)).mono ?_
         rintro r w7 ⟨v7, rfl, ⟨sv, rfl, hsl⟩, hE⟩
         have hE7 := hE6.ext hE
         have hsz := HM.out.extTo.size
         rw [HP.out] at hsl ⊢
         dsimp only at hsl ⊢
         obtain ⟨a7, c7, rfl, -⟩ := hsl.itAt
         obtain ⟨G, hm7, hG⟩ := HM.out.rebase hE
         have H7 := Lib.hid hsl
         have HG := Lib.hid hG
         have HEW := Lib.hid (HM.out.extTo.ext hE)
         have HSZ := Lib.hid hsz
         replace HM := Lib.hid hm7
         clear hE hE6 hsl hsz hm7 hG
         refine hK _ _ ⟨ClsE.of (by assumption), ?_⟩; clear hK K; try simp only [nP]
         refine any_end [(0, 7), (0, 8), (0, 9), (0, 10), (2, 11)] [12, 13, 14] (by kernel_rfl) (fun _ _ _ d _ h => by cases d <;> exact h) (by kernel_rfl) (by kernel_rfl) rfl rfl (ClsE.of (by repeat (first | assumption | exact Keeps.refl _ _ | refine Keeps.alloc ?_ _ | refine Keeps.setOne ?_ _ _ | refine Keeps.setCell ?_ _ _ (.inl (by first | rfl | exact .inl rfl | exact .inr rfl | omega)) | refine Keeps.drew ?_))) ?_; simp only [planL, nL]
         refine pM _ rfl rfl ?_; simp only [nP, nE]
         iterate 3 (refine pR rfl (fun W => by go_simp <;> with_reducible rfl) ?_; simp only [nP])
         refine plan_does rfl (fun K hK => ?_)
         go_wp2_with fail
         refine ⟨ClsE.of (by repeat (first | assumption | exact Keeps.refl _ _ | refine Keeps.alloc ?_ _ | refine Keeps.setOne ?_ _ _ | refine Keeps.setCell ?_ _ _ (.inl (by first | rfl | exact .inl rfl | exact .inr rfl | omega)) | refine Keeps.drew ?_)), ?_⟩; try simp only [nP]
         refine plan_nil ?_; simp only [tailL, List.filterMap_cons, List.filterMap_nil, nL]; change wpList _ _ _ (_ :: _ :: _ :: []) _ _
         skip
         clear fM
         have fM := HM.out.fa
         go_wp2_with ((with_reducible refine at_list ?_); first | ((with_reducible refine at_load 73 _ rfl ?_); refine ldW 73 _ rfl rfl rfl HM.out Tryz.underlying73 rfl infoDS ?_) | (((with_reducible refine at_store 73 _ _ rfl ?_); refine stW 73 _ _ rfl rfl rfl rfl HM.out infoDS ?_; intro w9 M); replace HM := Lib.hid M; clear M; clear fM; have fM := HM.out.fa))
         all_goals clear fM
         refine nxt HM fun wz M => ?_
         clear HM; have HM := M; clear M
         refine bodyPost_ret (results_ctt rfl _ rfl (loadVar_wide 73 HM.out (by with_reducible repeat first | exact ph | apply pt) Tryz.underlying73 rfl (by exact infoDS))) rfl ?_
         rw [← HPM.out]
         try rw [HCC.out]
         exact ⟨_, rfl, ⟨_, _, _, _, rfl, slv_rebase HA.out HSZ.out H7.out HM.out.keepsTo HG.out, byt_rebase HA.out HEW.out H2.out HM.out.keepsTo HG.out⟩, ext_rebase HEW.out HM.out.keepsTo HG.out⟩
       · skip
         go_wp2_with fail
         refine ⟨ClsE.of (by repeat (first | assumption | exact Keeps.refl _ _ | refine Keeps.alloc ?_ _ | refine Keeps.setOne ?_ _ _ | refine Keeps.setCell ?_ _ _ (.inl (by first | rfl | exact .inl rfl | exact .inr rfl | omega)) | refine Keeps.drew ?_)), ?_⟩; try simp only [nP]
         refine any_end [(2, 6), (0, 7), (0, 8), (0, 9), (0, 10)] [12, 13, 14] (by kernel_rfl) (fun _ _ _ d _ h => by cases d <;> exact h) (by kernel_rfl) (by kernel_rfl) rfl rfl (ClsE.of (by repeat (first | assumption | exact Keeps.refl _ _ | refine Keeps.alloc ?_ _ | refine Keeps.setOne ?_ _ _ | refine Keeps.setCell ?_ _ _ (.inl (by first | rfl | exact .inl rfl | exact .inr rfl | omega)) | refine Keeps.drew ?_))) ?_; simp only [planL, nL]
         refine plan_does rfl (fun K hK => ?_)
         go_wp2_with fail
         skip
         refine Mem.callE (wr := w3) HM.out.to (by repeat (first | assumption | exact Keeps.refl _ _ | with_reducible apply Keeps.drew | with_reducible apply Keeps.alloc)) fun w6 M hE6 => ?_
         replace HM := Lib.hid M
         clear M
         refine (rput_any w6 _ _ s.ring ⟨true, m, b⟩ ⟨_, rfl, H1.out.itExt HM.out.extTo⟩ ⟨_, rfl, HM.out.newBytes (v := .slice a5 b.length c5) (l := b) pk⟩ (by have := HOK.out.len; have := HOK.out.most; omega) (by have := HOK.out.most; omega) (Nat.le_trans HOK.out.lost hn) (by have := HRL.out; dsimp only; omega) (fun k hk => Nat.lt_of_lt_of_le (HA.out k hk) HM.out.extTo.size) (fun k hk => hk.2)).mono ?_
         rintro r w7 ⟨v7, rfl, ⟨sv, rfl, hsl⟩, hE⟩
         have hE7 := hE6.ext hE
         have hsz := HM.out.extTo.size
         rw [HP.out] at hsl ⊢
         dsimp only at hsl ⊢
         obtain ⟨a7, c7, rfl, -⟩ := hsl.itAt
         obtain ⟨G, hm7, hG⟩ := HM.out.rebase hE
         have H7 := Lib.hid hsl
         have HG := Lib.hid hG
         have HEW := Lib.hid (HM.out.extTo.ext hE)
         have HSZ := Lib.hid hsz
         replace HM := Lib.hid hm7
         clear hE hE6 hsl hsz hm7 hG
         refine hK _ _ ⟨ClsE.of (by assumption), ?_⟩; clear hK K; try simp only [nP]
         refine pM _ rfl rfl ?_; simp only [nP, nE]
         iterate 3 (refine pR rfl (fun W => by go_simp <;> with_reducible rfl) ?_; simp only [nP])
         refine plan_nil ?_; simp only [tailL, List.filterMap_cons, List.filterMap_nil, nL]; change wpList _ _ _ (_ :: _ :: _ :: []) _ _
         skip
         clear fM
         have fM := HM.out.fa
         go_wp2_with ((with_reducible refine at_list ?_); first | ((with_reducible refine at_load 73 _ rfl ?_); refine ldW 73 _ rfl rfl rfl HM.out Tryz.underlying73 rfl infoDS ?_) | (((with_reducible refine at_store 73 _ _ rfl ?_); refine stW 73 _ _ rfl rfl rfl rfl HM.out infoDS ?_; intro w9 M); replace HM := Lib.hid M; clear M; clear fM; have fM := HM.out.fa))
         all_goals clear fM
         refine nxt HM fun wz M => ?_
         clear HM; have HM := M; clear M
         refine bodyPost_ret (results_ctt rfl _ rfl (loadVar_wide 73 HM.out (by with_reducible repeat first | exact ph | apply pt) Tryz.underlying73 rfl (by exact infoDS))) rfl ?_
         rw [← HPM.out]
         try rw [HCC.out]
         exact ⟨_, rfl, ⟨_, _, _, _, rfl, slv_rebase HA.out HSZ.out H7.out HM.out.keepsTo HG.out, byt_rebase HA.out HEW.out H2.out HM.out.keepsTo HG.out⟩, ext_rebase HEW.out HM.out.keepsTo HG.out⟩
     · skip
       go_wp2_with fail
       refine ⟨ClsE.of (by repeat (first | assumption | exact Keeps.refl _ _ | refine Keeps.alloc ?_ _ | refine Keeps.setOne ?_ _ _ | refine Keeps.setCell ?_ _ _ (.inl (by first | rfl | exact .inl rfl | exact .inr rfl | omega)) | refine Keeps.drew ?_)), ?_⟩; try simp only [nP]
       refine any_end [(2, 4), (0, 5), (2, 6), (0, 7), (0, 8), (0, 9), (0, 10)] [12, 13, 14] (by kernel_rfl) (fun _ _ _ d _ h => by cases d <;> exact h) (by kernel_rfl) (by kernel_rfl) rfl rfl (ClsE.of (by repeat (first | assumption | exact Keeps.refl _ _ | refine Keeps.alloc ?_ _ | refine Keeps.setOne ?_ _ _ | refine Keeps.setCell ?_ _ _ (.inl (by first | rfl | exact .inl rfl | exact .inr rfl | omega)) | refine Keeps.drew ?_))) ?_; simp only [planL, nL]
       refine plan_does rfl (fun K hK => ?_)
       go_wp2_with fail
       skip
       refine Mem.callE (wr := w3) HM.out.to (by repeat (first | assumption | exact Keeps.refl _ _ | with_reducible apply Keeps.drew | with_reducible apply Keeps.alloc)) fun w4 M hE4 => ?_
       replace HM := Lib.hid M
       clear M
       refine (docRaw_any w4 ⟨10, m, nu, ix, is, tx, tk, e⟩ HSD.out ⟨HL.out.1, HL.out.2.2, HL.out.2.1⟩).mono ?_
       rintro r w5 ⟨v5, rfl, hU⟩
       have hE5 := hE4.ext hU.keepsTo
       rw [show frameL (bodyL ⟨10, m, nu, ix, is, tx, tk, e⟩) = b from HBE.out] at hU
       replace HM := Lib.hid (HM.out.newU hU)
       obtain ⟨a5, c5, rfl⟩ := HM.out.fact fun A h => bytR.len h
       clear hU hE4
       clear w4
       refine hK _ _ ⟨ClsE.of (by assumption), ?_⟩; clear hK K; try simp only [nP]
       refine pR rfl (fun W => by go_simp <;> with_reducible rfl) ?_; simp only [nP]
       refine plan_does rfl (fun K hK => ?_)
       go_wp2_with fail
       skip
       refine Mem.callE (wr := w3) HM.out.to (by repeat (first | assumption | exact Keeps.refl _ _ | with_reducible apply Keeps.drew | with_reducible apply Keeps.alloc)) fun w6 M hE6 => ?_
       replace HM := Lib.hid M
       clear M
       refine (rput_any w6 _ _ s.ring ⟨true, m, b⟩ ⟨_, rfl, H1.out.itExt HM.out.extTo⟩ ⟨_, rfl, HM.out.newBytes (v := .slice a5 b.length c5) (l := b) pk⟩ (by have := HOK.out.len; have := HOK.out.most; omega) (by have := HOK.out.most; omega) (Nat.le_trans HOK.out.lost hn) (by have := HRL.out; dsimp only; omega) (fun k hk => Nat.lt_of_lt_of_le (HA.out k hk) HM.out.extTo.size) (fun k hk => hk.2)).mono ?_
       rintro r w7 ⟨v7, rfl, ⟨sv, rfl, hsl⟩, hE⟩
       have hE7 := hE6.ext hE
       have hsz := HM.out.extTo.size
       rw [HP.out] at hsl ⊢
       dsimp only at hsl ⊢
       obtain ⟨a7, c7, rfl, -⟩ := hsl.itAt
       obtain ⟨G, hm7, hG⟩ := HM.out.rebase hE
       have H7 := Lib.hid hsl
       have HG := Lib.hid hG
       have HEW := Lib.hid (HM.out.extTo.ext hE)
       have HSZ := Lib.hid hsz
       replace HM := Lib.hid hm7
       clear hE hE6 hsl hsz hm7 hG
       refine hK _ _ ⟨ClsE.of (by assumption), ?_⟩; clear hK K; try simp only [nP]
       refine pM _ rfl rfl ?_; simp only [nP, nE]
       iterate 3 (refine pR rfl (fun W => by go_simp <;> with_reducible rfl) ?_; simp only [nP])
       refine plan_nil ?_; simp only [tailL, List.filterMap_cons, List.filterMap_nil, nL]; change wpList _ _ _ (_ :: _ :: _ :: []) _ _
       skip
       clear fM
       have fM := HM.out.fa
       go_wp2_with ((with_reducible refine at_list ?_); first | ((with_reducible refine at_load 73 _ rfl ?_); refine ldW 73 _ rfl rfl rfl HM.out Tryz.underlying73 rfl infoDS ?_) | (((with_reducible refine at_store 73 _ _ rfl ?_); refine stW 73 _ _ rfl rfl rfl rfl HM.out infoDS ?_; intro w9 M); replace HM := Lib.hid M; clear M; clear fM; have fM := HM.out.fa))
       all_goals clear fM
       refine nxt HM fun wz M => ?_
       clear HM; have HM := M; clear M
       refine bodyPost_ret (results_ctt rfl _ rfl (loadVar_wide 73 HM.out (by with_reducible repeat first | exact ph | apply pt) Tryz.underlying73 rfl (by exact infoDS))) rfl ?_
       rw [← HPM.out]
       try rw [HCC.out]
       exact ⟨_, rfl, ⟨_, _, _, _, rfl, slv_rebase HA.out HSZ.out H7.out HM.out.keepsTo HG.out, byt_rebase HA.out HEW.out H2.out HM.out.keepsTo HG.out⟩, ext_rebase HEW.out HM.out.keepsTo HG.out⟩
theorem dbes_11 {A : Nat → Prop} (W w : World) (hT : Tabs W) (hE : Ext W w) (v : Value) (s : Ss) (n : Nat) (hok : OkSs s n) (hn : n ≤ 1000000) (x : Sd) (hk : x.kind = 11) (hl : x.text.length ≤ 300 ∧ x.token.length ≤ 300 ∧ x.e.text.length ≤ 300) (h : DocAt w A v s) (hA : ∀ k, A k → k < w.heap.size) :
 Calls Tryz.prog 82 #[v, x.v] w (BesPost w A s x) := by
 obtain ⟨a, c, p, q, rfl, h1, h2⟩ := h
 have HM := Lib.hid (Mem.start0 w)
 have H1 := Lib.hid h1
 have H2 := Lib.hid h2
 clear h1 h2
 have HV := Lib.hid (show x.v = .agg x.cells.toArray from rfl)
 have HE := Lib.hid hE
 have HOK := Lib.hid hok
 have HA := Lib.hid hA
 have HL := Lib.hid hl
 clear hE hok hA
 unfold BesPost
 obtain ⟨xk, m, nu, ix, is, tx, tk, e⟩ := x
 dsimp only at hk hl HV HL
 subst hk
 cases hsd : sdB ⟨11, m, nu, ix, is, tx, tk, e⟩ with
 | false =>
   have HSD := Lib.hid hsd
   have ho : s.beside ⟨11, m, nu, ix, is, tx, tk, e⟩ = (s, 0, 2) := by
    unfold Ss.beside
    rw [if_pos (show Ss.besOk ⟨11, m, nu, ix, is, tx, tk, e⟩ = false by show (besK 11 && sdB _) = false; rw [hsd]; rfl)]
   rw [ho]
   clear ho hsd
   rw [HV.out]
   unfold Sd.cells
   go_enter Tryz.func82, Tryz.ntmps82
   have fM := HM.out.fa
   go_wp2_with ((with_reducible refine at_list ?_); ((first | ((with_reducible refine at_box 73 _ rfl ?_); refine boW 73 _ rfl rfl rfl HM.out ?_; intro w9 n9 M) | ((with_reducible refine at_alloc 73 rfl ?_); refine alW 73 rfl rfl (zeroDS _) HM.out ?_; intro w9 n9 M)); replace HM := Lib.hid M; clear M; clear fM; have fM := HM.out.fa))
   all_goals clear fM
   refine nxt HM fun w1 M => ?_
   clear HM; have HM := M; clear M
   rw [← HV.out]
   refine (docRight_any W w1 hT (HE.out.ext HM.out.extTo) ⟨11, m, nu, ix, is, tx, tk, e⟩ ⟨by dsimp only; omega, by dsimp only; omega, by dsimp only; omega⟩).mono ?_
   rintro r w2 ⟨rfl, hE2⟩
   rw [HSD.out]
   replace HM := Lib.hid (HM.out.ext hE2)
   clear hE2
   rw [HV.out]
   unfold Sd.cells
   have fM := HM.out.fa
   go_wp2_with ((with_reducible refine at_list ?_); first | ((with_reducible refine at_load 73 _ rfl ?_); refine ldW 73 _ rfl rfl rfl HM.out Tryz.underlying73 rfl infoDS ?_) | (((with_reducible refine at_store 73 _ _ rfl ?_); refine stW 73 _ _ rfl rfl rfl rfl HM.out infoDS ?_; intro w9 M); replace HM := Lib.hid M; clear M; clear fM; have fM := HM.out.fa))
   all_goals clear fM
   refine nxt HM fun wz M => ?_
   clear HM; have HM := M; clear M
   refine bodyPost_ret (results_ctt rfl _ rfl (loadVar_wide 73 HM.out (by with_reducible repeat first | exact ph | apply pt) Tryz.underlying73 rfl (by exact infoDS))) rfl ?_
   exact ⟨_, rfl, ⟨_, _, _, _, rfl, (H1.out.itExt HM.out.extTo).itMono (fun k h => .inl h), (H2.out.ext HM.out.extTo).mono (fun k h => .inl h)⟩, HM.out.extTo⟩
 | true =>
   have HSD := Lib.hid hsd
   have hbo : Ss.besOk ⟨11, m, nu, ix, is, tx, tk, e⟩ = true := by show (besK 11 && sdB _) = true; rw [hsd]; rfl
   have hbn : ¬ Ss.besOk ⟨11, m, nu, ix, is, tx, tk, e⟩ = false := by rw [hbo]; decide
   have HMB := Lib.hid (sd_member (x := ⟨11, m, nu, ix, is, tx, tk, e⟩) hbo)
   cases hc : s.closed with
   | true =>
     have ho : s.beside ⟨11, m, nu, ix, is, tx, tk, e⟩ = (s, 0, 360) := by unfold Ss.beside; rw [if_neg hbn, if_pos hc]
     rw [ho]
     clear ho hsd hbo hbn
     rw [HV.out]
     unfold Sd.cells
     go_enter Tryz.func82, Tryz.ntmps82
     have fM := HM.out.fa
     go_wp2_with ((with_reducible refine at_list ?_); ((first | ((with_reducible refine at_box 73 _ rfl ?_); refine boW 73 _ rfl rfl rfl HM.out ?_; intro w9 n9 M) | ((with_reducible refine at_alloc 73 rfl ?_); refine alW 73 rfl rfl (zeroDS _) HM.out ?_; intro w9 n9 M)); replace HM := Lib.hid M; clear M; clear fM; have fM := HM.out.fa))
     all_goals clear fM
     refine nxt HM fun w1 M => ?_
     clear HM; have HM := M; clear M
     rw [← HV.out]
     refine (docRight_any W w1 hT (HE.out.ext HM.out.extTo) ⟨11, m, nu, ix, is, tx, tk, e⟩ ⟨by dsimp only; omega, by dsimp only; omega, by dsimp only; omega⟩).mono ?_
     rintro r w2 ⟨rfl, hE2⟩
     rw [HSD.out]
     replace HM := Lib.hid (HM.out.ext hE2)
     clear hE2
     rw [HV.out]
     unfold Sd.cells
     have fM := HM.out.fa
     go_wp2_with ((with_reducible refine at_list ?_); first | ((with_reducible refine at_load 73 _ rfl ?_); refine ldW 73 _ rfl rfl rfl HM.out Tryz.underlying73 rfl infoDS ?_) | (((with_reducible refine at_store 73 _ _ rfl ?_); refine stW 73 _ _ rfl rfl rfl rfl HM.out infoDS ?_; intro w9 M); replace HM := Lib.hid M; clear M; clear fM; have fM := HM.out.fa))
     all_goals clear fM
     refine nxt HM fun wz M => ?_
     clear HM; have HM := M; clear M
     refine bodyPost_ret (results_ctt rfl _ rfl (loadVar_wide 73 HM.out (by with_reducible repeat first | exact ph | apply pt) Tryz.underlying73 rfl (by exact infoDS))) rfl ?_
     exact ⟨_, rfl, ⟨_, _, _, _, rfl, (H1.out.itExt HM.out.extTo).itMono (fun k h => .inl h), (H2.out.ext HM.out.extTo).mono (fun k h => .inl h)⟩, HM.out.extTo⟩
   | false =>
     have hcf : ¬ s.closed = true := by rw [hc]; decide
     obtain ⟨b, hbe⟩ : ∃ b, rawS ⟨11, m, nu, ix, is, tx, tk, e⟩ = b := ⟨_, rfl⟩
     have hrl := raw_len _ hsd
     rw [hbe] at hrl
     have hks : Ss.keyS ⟨11, m, nu, ix, is, tx, tk, e⟩ = m + 16 := by unfold Ss.keyS; simp
     obtain ⟨⟨R', n1, e1⟩, hp⟩ : ∃ p, s.ring.put ⟨true, m + 16, b⟩ = p := ⟨_, rfl⟩
     have hpm := put_most s.ring ⟨true, m + 16, b⟩
     rw [hp] at hpm
     dsimp only at hpm
     have HPM := Lib.hid hpm
     have ho : s.beside ⟨11, m, nu, ix, is, tx, tk, e⟩ = ({ s with ring := R' }, (n1 : Int), 0) := by
      unfold Ss.beside; rw [if_neg hbn, if_neg hcf, hks, hbe, hp]
     rw [ho]
     have HP := Lib.hid hp
     have HBE := Lib.hid hbe
     have HRL := Lib.hid hrl
     have HCC := Lib.hid hc
     clear ho hsd hbo hbn hcf hp hbe hrl hpm hks
     rw [HV.out]
     unfold Sd.cells
     go_enter Tryz.func82, Tryz.ntmps82
     have fM := HM.out.fa
     go_wp2_with ((with_reducible refine at_list ?_); ((first | ((with_reducible refine at_box 73 _ rfl ?_); refine boW 73 _ rfl rfl rfl HM.out ?_; intro w9 n9 M) | ((with_reducible refine at_alloc 73 rfl ?_); refine alW 73 rfl rfl (zeroDS _) HM.out ?_; intro w9 n9 M)); replace HM := Lib.hid M; clear M; clear fM; have fM := HM.out.fa))
     all_goals clear fM
     refine nxt HM fun w1 M => ?_
     clear HM; have HM := M; clear M
     rw [← HV.out]
     refine (docRight_any W w1 hT (HE.out.ext HM.out.extTo) ⟨11, m, nu, ix, is, tx, tk, e⟩ ⟨by dsimp only; omega, by dsimp only; omega, by dsimp only; omega⟩).mono ?_
     rintro r w2 ⟨rfl, hE2⟩
     rw [HSD.out]
     replace HM := Lib.hid (HM.out.ext hE2)
     clear hE2
     rw [HV.out]
     unfold Sd.cells
     have hw : wrap64 (m + 16) = m + 16 := IntWalk.wrap64_in _ (by have := HMB.out; omega)
     have fM := HM.out.fa
     go_wp2_with fail
     all_goals clear fM
     refine nxt HM fun w3 M => ?_
     clear HM; have HM := M; clear M
     have fM := HM.out.fa
     have hE0 : Keeps NoB w3 w3.drew := (Keeps.refl _ _).drew
     refine wp_region_forks [1, 3] [4, 6, 11, 12, 13, 14] (ClsE w3) (by kernel_rfl) ?_
     refine any_seg (L := #[true, true, true, true, false, false, false, false, false, false, false, false, false, false, false]) [(0, 0), (1, 1), (0, 2), (1, 3)] 11 (by kernel_rfl) (fun _ _ _ d _ h => by cases d <;> exact h) (by kernel_rfl) (by kernel_rfl) rfl rfl (ClsE.of (by repeat (first | assumption | exact Keeps.refl _ _ | refine Keeps.alloc ?_ _ | refine Keeps.setOne ?_ _ _ | refine Keeps.setCell ?_ _ _ (.inl (by first | rfl | exact .inl rfl | exact .inr rfl | omega)) | refine Keeps.drew ?_))) ?_; simp only [planL, nL]
     iterate 4 (first | (refine pM _ rfl rfl ?_; simp only [nP, nE]) | (refine pR (by rfl) (fun W => by go_simp <;> with_reducible rfl) ?_; simp only [nP]) | (refine pL (by rfl) (fun W => by go_simp <;> with_reducible rfl) ?_; simp only [nP]))
     refine plan_nil ?_
     refine any_fork 4 11 (by kernel_rfl) (by kernel_rfl) rfl rfl rfl rfl (fun K hK => ?_) (fun K hK => ?_)
     · skip
       go_wp2_with fail
       skip
       refine Mem.callE (wr := w3) HM.out.to (by repeat (first | assumption | exact Keeps.refl _ _ | with_reducible apply Keeps.drew | with_reducible apply Keeps.alloc)) fun w4 M hE4 => ?_
       replace HM := Lib.hid M
       clear M
       refine (docRaw_any w4 ⟨11, m, nu, ix, is, tx, tk, e⟩ HSD.out ⟨HL.out.1, HL.out.2.2, HL.out.2.1⟩).mono ?_
       rintro r w5 ⟨v5, rfl, hU⟩
       have hE5 := hE4.ext hU.keepsTo
       rw [show frameL (bodyL ⟨11, m, nu, ix, is, tx, tk, e⟩) = b from HBE.out] at hU
       replace HM := Lib.hid (HM.out.newU hU)
       obtain ⟨a5, c5, rfl⟩ := HM.out.fact fun A h => bytR.len h
       clear hU hE4
       clear w4
       refine hK _ _ ⟨ClsE.of (by assumption), ?_⟩; clear hK K; try simp only [nP]
       refine any_seg (L := #[true, true, true, true, true, true, false, false, false, false, false, false, false, false, false]) [(0, 5)] 9 (by kernel_rfl) (fun _ _ _ d _ h => by cases d <;> exact h) (by kernel_rfl) (by kernel_rfl) rfl rfl (ClsE.of (by repeat (first | assumption | exact Keeps.refl _ _ | refine Keeps.alloc ?_ _ | refine Keeps.setOne ?_ _ _ | refine Keeps.setCell ?_ _ _ (.inl (by first | rfl | exact .inl rfl | exact .inr rfl | omega)) | refine Keeps.drew ?_))) ?_; simp only [planL, nL]
       refine pR rfl (fun W => by go_simp <;> with_reducible rfl) ?_; simp only [nP]
       refine plan_nil ?_
       refine any_fork 6 11 (by kernel_rfl) (by kernel_rfl) rfl rfl rfl rfl (fun K hK => ?_) (fun K hK => ?_)
       · skip
         go_wp2_with fail
         skip
         refine Mem.callE (wr := w3) HM.out.to (by repeat (first | assumption | exact Keeps.refl _ _ | with_reducible apply Keeps.drew | with_reducible apply Keeps.alloc)) fun w6 M hE6 => ?_
         replace HM := Lib.hid M
         clear M
         refine (rput_any w6 _ _ s.ring ⟨true, m + 16, b⟩ ⟨_, rfl, H1.out.itExt HM.out.extTo⟩ ⟨_, rfl, HM.out.newBytes (v := .slice a5 b.length c5) (l := b) pk⟩ (by have := HOK.out.len; have := HOK.out.most; omega) (by have := HOK.out.most; omega) (Nat.le_trans HOK.out.lost hn) (by have := HRL.out; dsimp only; omega) (fun k hk => Nat.lt_of_lt_of_le (HA.out k hk) HM.out.extTo.size) (fun k hk => hk.2)).mono ?_
         rintro r w7 ⟨v7, rfl, ⟨sv, rfl, hsl⟩, hE⟩
         have hE7 := hE6.ext hE
         have hsz := HM.out.extTo.size
         rw [HP.out] at hsl ⊢
         dsimp only at hsl ⊢
         obtain ⟨a7, c7, rfl, -⟩ := hsl.itAt
         obtain ⟨G, hm7, hG⟩ := HM.out.rebase hE
         have H7 := Lib.hid hsl
         have HG := Lib.hid hG
         have HEW := Lib.hid (HM.out.extTo.ext hE)
         have HSZ := Lib.hid hsz
         replace HM := Lib.hid hm7
         clear hE hE6 hsl hsz hm7 hG
         refine hK _ _ ⟨ClsE.of (by assumption), ?_⟩; clear hK K; try simp only [nP]
         refine any_end [(0, 7), (0, 8), (0, 9), (0, 10), (2, 11)] [12, 13, 14] (by kernel_rfl) (fun _ _ _ d _ h => by cases d <;> exact h) (by kernel_rfl) (by kernel_rfl) rfl rfl (ClsE.of (by repeat (first | assumption | exact Keeps.refl _ _ | refine Keeps.alloc ?_ _ | refine Keeps.setOne ?_ _ _ | refine Keeps.setCell ?_ _ _ (.inl (by first | rfl | exact .inl rfl | exact .inr rfl | omega)) | refine Keeps.drew ?_))) ?_; simp only [planL, nL]
         refine pM _ rfl rfl ?_; simp only [nP, nE]
         iterate 3 (refine pR rfl (fun W => by go_simp <;> with_reducible rfl) ?_; simp only [nP])
         refine plan_does rfl (fun K hK => ?_)
         go_wp2_with fail
         refine ⟨ClsE.of (by repeat (first | assumption | exact Keeps.refl _ _ | refine Keeps.alloc ?_ _ | refine Keeps.setOne ?_ _ _ | refine Keeps.setCell ?_ _ _ (.inl (by first | rfl | exact .inl rfl | exact .inr rfl | omega)) | refine Keeps.drew ?_)), ?_⟩; try simp only [nP]
         refine plan_nil ?_; simp only [tailL, List.filterMap_cons, List.filterMap_nil, nL]; change wpList _ _ _ (_ :: _ :: _ :: []) _ _
         skip
         clear fM
         have fM := HM.out.fa
         go_wp2_with ((with_reducible refine at_list ?_); first | ((with_reducible refine at_load 73 _ rfl ?_); refine ldW 73 _ rfl rfl rfl HM.out Tryz.underlying73 rfl infoDS ?_) | (((with_reducible refine at_store 73 _ _ rfl ?_); refine stW 73 _ _ rfl rfl rfl rfl HM.out infoDS ?_; intro w9 M); replace HM := Lib.hid M; clear M; clear fM; have fM := HM.out.fa))
         all_goals clear fM
         refine nxt HM fun wz M => ?_
         clear HM; have HM := M; clear M
         refine bodyPost_ret (results_ctt rfl _ rfl (loadVar_wide 73 HM.out (by with_reducible repeat first | exact ph | apply pt) Tryz.underlying73 rfl (by exact infoDS))) rfl ?_
         rw [← HPM.out]
         try rw [HCC.out]
         exact ⟨_, rfl, ⟨_, _, _, _, rfl, slv_rebase HA.out HSZ.out H7.out HM.out.keepsTo HG.out, byt_rebase HA.out HEW.out H2.out HM.out.keepsTo HG.out⟩, ext_rebase HEW.out HM.out.keepsTo HG.out⟩
       · skip
         go_wp2_with fail
         refine ⟨ClsE.of (by repeat (first | assumption | exact Keeps.refl _ _ | refine Keeps.alloc ?_ _ | refine Keeps.setOne ?_ _ _ | refine Keeps.setCell ?_ _ _ (.inl (by first | rfl | exact .inl rfl | exact .inr rfl | omega)) | refine Keeps.drew ?_)), ?_⟩; try simp only [nP]
         refine any_end [(2, 6), (0, 7), (0, 8), (0, 9), (0, 10)] [12, 13, 14] (by kernel_rfl) (fun _ _ _ d _ h => by cases d <;> exact h) (by kernel_rfl) (by kernel_rfl) rfl rfl (ClsE.of (by repeat (first | assumption | exact Keeps.refl _ _ | refine Keeps.alloc ?_ _ | refine Keeps.setOne ?_ _ _ | refine Keeps.setCell ?_ _ _ (.inl (by first | rfl | exact .inl rfl | exact .inr rfl | omega)) | refine Keeps.drew ?_))) ?_; simp only [planL, nL]
         refine plan_does rfl (fun K hK => ?_)
         go_wp2_with fail
         skip
         refine Mem.callE (wr := w3) HM.out.to (by repeat (first | assumption | exact Keeps.refl _ _ | with_reducible apply Keeps.drew | with_reducible apply Keeps.alloc)) fun w6 M hE6 => ?_
         replace HM := Lib.hid M
         clear M
         refine (rput_any w6 _ _ s.ring ⟨true, m + 16, b⟩ ⟨_, rfl, H1.out.itExt HM.out.extTo⟩ ⟨_, rfl, HM.out.newBytes (v := .slice a5 b.length c5) (l := b) pk⟩ (by have := HOK.out.len; have := HOK.out.most; omega) (by have := HOK.out.most; omega) (Nat.le_trans HOK.out.lost hn) (by have := HRL.out; dsimp only; omega) (fun k hk => Nat.lt_of_lt_of_le (HA.out k hk) HM.out.extTo.size) (fun k hk => hk.2)).mono ?_
         rintro r w7 ⟨v7, rfl, ⟨sv, rfl, hsl⟩, hE⟩
         have hE7 := hE6.ext hE
         have hsz := HM.out.extTo.size
         rw [HP.out] at hsl ⊢
         dsimp only at hsl ⊢
         obtain ⟨a7, c7, rfl, -⟩ := hsl.itAt
         obtain ⟨G, hm7, hG⟩ := HM.out.rebase hE
         have H7 := Lib.hid hsl
         have HG := Lib.hid hG
         have HEW := Lib.hid (HM.out.extTo.ext hE)
         have HSZ := Lib.hid hsz
         replace HM := Lib.hid hm7
         clear hE hE6 hsl hsz hm7 hG
         refine hK _ _ ⟨ClsE.of (by assumption), ?_⟩; clear hK K; try simp only [nP]
         refine pM _ rfl rfl ?_; simp only [nP, nE]
         iterate 3 (refine pR rfl (fun W => by go_simp <;> with_reducible rfl) ?_; simp only [nP])
         refine plan_nil ?_; simp only [tailL, List.filterMap_cons, List.filterMap_nil, nL]; change wpList _ _ _ (_ :: _ :: _ :: []) _ _
         skip
         clear fM
         have fM := HM.out.fa
         go_wp2_with ((with_reducible refine at_list ?_); first | ((with_reducible refine at_load 73 _ rfl ?_); refine ldW 73 _ rfl rfl rfl HM.out Tryz.underlying73 rfl infoDS ?_) | (((with_reducible refine at_store 73 _ _ rfl ?_); refine stW 73 _ _ rfl rfl rfl rfl HM.out infoDS ?_; intro w9 M); replace HM := Lib.hid M; clear M; clear fM; have fM := HM.out.fa))
         all_goals clear fM
         refine nxt HM fun wz M => ?_
         clear HM; have HM := M; clear M
         refine bodyPost_ret (results_ctt rfl _ rfl (loadVar_wide 73 HM.out (by with_reducible repeat first | exact ph | apply pt) Tryz.underlying73 rfl (by exact infoDS))) rfl ?_
         rw [← HPM.out]
         try rw [HCC.out]
         exact ⟨_, rfl, ⟨_, _, _, _, rfl, slv_rebase HA.out HSZ.out H7.out HM.out.keepsTo HG.out, byt_rebase HA.out HEW.out H2.out HM.out.keepsTo HG.out⟩, ext_rebase HEW.out HM.out.keepsTo HG.out⟩
     · skip
       go_wp2_with fail
       refine ⟨ClsE.of (by repeat (first | assumption | exact Keeps.refl _ _ | refine Keeps.alloc ?_ _ | refine Keeps.setOne ?_ _ _ | refine Keeps.setCell ?_ _ _ (.inl (by first | rfl | exact .inl rfl | exact .inr rfl | omega)) | refine Keeps.drew ?_)), ?_⟩; try simp only [nP]
       refine any_end [(2, 4), (0, 5), (2, 6), (0, 7), (0, 8), (0, 9), (0, 10)] [12, 13, 14] (by kernel_rfl) (fun _ _ _ d _ h => by cases d <;> exact h) (by kernel_rfl) (by kernel_rfl) rfl rfl (ClsE.of (by repeat (first | assumption | exact Keeps.refl _ _ | refine Keeps.alloc ?_ _ | refine Keeps.setOne ?_ _ _ | refine Keeps.setCell ?_ _ _ (.inl (by first | rfl | exact .inl rfl | exact .inr rfl | omega)) | refine Keeps.drew ?_))) ?_; simp only [planL, nL]
       refine plan_does rfl (fun K hK => ?_)
       go_wp2_with fail
       skip
       refine Mem.callE (wr := w3) HM.out.to (by repeat (first | assumption | exact Keeps.refl _ _ | with_reducible apply Keeps.drew | with_reducible apply Keeps.alloc)) fun w4 M hE4 => ?_
       replace HM := Lib.hid M
       clear M
       refine (docRaw_any w4 ⟨11, m, nu, ix, is, tx, tk, e⟩ HSD.out ⟨HL.out.1, HL.out.2.2, HL.out.2.1⟩).mono ?_
       rintro r w5 ⟨v5, rfl, hU⟩
       have hE5 := hE4.ext hU.keepsTo
       rw [show frameL (bodyL ⟨11, m, nu, ix, is, tx, tk, e⟩) = b from HBE.out] at hU
       replace HM := Lib.hid (HM.out.newU hU)
       obtain ⟨a5, c5, rfl⟩ := HM.out.fact fun A h => bytR.len h
       clear hU hE4
       clear w4
       refine hK _ _ ⟨ClsE.of (by assumption), ?_⟩; clear hK K; try simp only [nP]
       refine pR rfl (fun W => by go_simp <;> with_reducible rfl) ?_; simp only [nP]
       refine plan_does rfl (fun K hK => ?_)
       go_wp2_with fail
       skip
       refine Mem.callE (wr := w3) HM.out.to (by repeat (first | assumption | exact Keeps.refl _ _ | with_reducible apply Keeps.drew | with_reducible apply Keeps.alloc)) fun w6 M hE6 => ?_
       replace HM := Lib.hid M
       clear M
       refine (rput_any w6 _ _ s.ring ⟨true, m + 16, b⟩ ⟨_, rfl, H1.out.itExt HM.out.extTo⟩ ⟨_, rfl, HM.out.newBytes (v := .slice a5 b.length c5) (l := b) pk⟩ (by have := HOK.out.len; have := HOK.out.most; omega) (by have := HOK.out.most; omega) (Nat.le_trans HOK.out.lost hn) (by have := HRL.out; dsimp only; omega) (fun k hk => Nat.lt_of_lt_of_le (HA.out k hk) HM.out.extTo.size) (fun k hk => hk.2)).mono ?_
       rintro r w7 ⟨v7, rfl, ⟨sv, rfl, hsl⟩, hE⟩
       have hE7 := hE6.ext hE
       have hsz := HM.out.extTo.size
       rw [HP.out] at hsl ⊢
       dsimp only at hsl ⊢
       obtain ⟨a7, c7, rfl, -⟩ := hsl.itAt
       obtain ⟨G, hm7, hG⟩ := HM.out.rebase hE
       have H7 := Lib.hid hsl
       have HG := Lib.hid hG
       have HEW := Lib.hid (HM.out.extTo.ext hE)
       have HSZ := Lib.hid hsz
       replace HM := Lib.hid hm7
       clear hE hE6 hsl hsz hm7 hG
       refine hK _ _ ⟨ClsE.of (by assumption), ?_⟩; clear hK K; try simp only [nP]
       refine pM _ rfl rfl ?_; simp only [nP, nE]
       iterate 3 (refine pR rfl (fun W => by go_simp <;> with_reducible rfl) ?_; simp only [nP])
       refine plan_nil ?_; simp only [tailL, List.filterMap_cons, List.filterMap_nil, nL]; change wpList _ _ _ (_ :: _ :: _ :: []) _ _
       skip
       clear fM
       have fM := HM.out.fa
       go_wp2_with ((with_reducible refine at_list ?_); first | ((with_reducible refine at_load 73 _ rfl ?_); refine ldW 73 _ rfl rfl rfl HM.out Tryz.underlying73 rfl infoDS ?_) | (((with_reducible refine at_store 73 _ _ rfl ?_); refine stW 73 _ _ rfl rfl rfl rfl HM.out infoDS ?_; intro w9 M); replace HM := Lib.hid M; clear M; clear fM; have fM := HM.out.fa))
       all_goals clear fM
       refine nxt HM fun wz M => ?_
       clear HM; have HM := M; clear M
       refine bodyPost_ret (results_ctt rfl _ rfl (loadVar_wide 73 HM.out (by with_reducible repeat first | exact ph | apply pt) Tryz.underlying73 rfl (by exact infoDS))) rfl ?_
       rw [← HPM.out]
       try rw [HCC.out]
       exact ⟨_, rfl, ⟨_, _, _, _, rfl, slv_rebase HA.out HSZ.out H7.out HM.out.keepsTo HG.out, byt_rebase HA.out HEW.out H2.out HM.out.keepsTo HG.out⟩, ext_rebase HEW.out HM.out.keepsTo HG.out⟩
end
end Go.Proofs.YtoadjbgpfihoiaaGreatDoor
