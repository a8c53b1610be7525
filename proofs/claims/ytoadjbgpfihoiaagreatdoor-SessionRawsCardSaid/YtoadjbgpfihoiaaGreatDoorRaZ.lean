/- Texts DT, one behind the other. Conditions: as each says. -/
import Derived.Test.YtoadjbgpfihoiaaGreatDoorRaY
set_option linter.unusedVariables false
set_option linter.unusedSimpArgs false
set_option maxHeartbeats 8000000
set_option maxRecDepth 100000
namespace Go.Proofs.YtoadjbgpfihoiaaGreatDoor
open Go.RowKit
section
theorem Mem.rebase {w w6 w7 : World} {L : List Res} (h : Mem NoB w w6 L) (e : Ext w6 w7) : ∃ G : Nat → Prop, Mem G w7 w7 L ∧ ∀ k, G k → w.heap.size ≤ k ∧ k < w6.heap.size := by
 obtain ⟨a, G, b, c⟩ := h
 exact ⟨G, Mem.ofSep (b.keeps e fun _ _ => noB _), fun k hk => ⟨(c k hk).resolve_left (noB _), b.lt k hk⟩⟩
theorem ext_rebase {w w6 w7 wz : World} {G : Nat → Prop} (e : Ext w w7) (hk : Keeps G w7 wz) (hG : ∀ k, G k → w.heap.size ≤ k ∧ k < w6.heap.size) : Ext w wz := e.then hk fun i hi h => by have := (hG i h).1; omega
theorem slv_rebase {w w6 w7 wz : World} {A G : Nat → Prop} {v : Value} {l : List It} (hA : ∀ k, A k → k < w.heap.size) (h6 : w.heap.size ≤ w6.heap.size) (h : SlV (fun k => A k ∨ (w6.heap.size ≤ k ∧ k < w7.heap.size)) (ItemAt w7 (fun k => A k ∨ (w6.heap.size ≤ k ∧ k < w7.heap.size))) 3 v l) (hk : Keeps G w7 wz) (hG : ∀ k, G k → w.heap.size ≤ k ∧ k < w6.heap.size) :
 SlV (fun k => A k ∨ (w.heap.size ≤ k ∧ k < wz.heap.size)) (ItemAt wz (fun k => A k ∨ (w.heap.size ≤ k ∧ k < wz.heap.size))) 3 v l :=
 (h.itKeeps hk fun k hk' hg => by
  have := hG k hg
  rcases hk' with h | h
  · have := hA k h; omega
  · omega).itMono fun k hk' => hk'.imp id fun h => ⟨Nat.le_trans h6 h.1, Nat.lt_of_lt_of_le h.2 hk.size⟩
theorem slv_rebase0 {w w6 w7 wz : World} {A G : Nat → Prop} {v : Value} {l : List It} (hA : ∀ k, A k → k < w.heap.size) (e : Ext w w7) (h : SlV A (ItemAt w A) 3 v l) (hk : Keeps G w7 wz) (hG : ∀ k, G k → w.heap.size ≤ k ∧ k < w6.heap.size) :
 SlV (fun k => A k ∨ (w.heap.size ≤ k ∧ k < wz.heap.size)) (ItemAt wz (fun k => A k ∨ (w.heap.size ≤ k ∧ k < wz.heap.size))) 3 v l :=
 ((h.itExt e).itKeeps hk fun k hk' hg => by have := hG k hg; have := hA k hk'; omega).itMono fun k h => .inl h
theorem byt_rebase {w w6 w7 wz : World} {A G : Nat → Prop} {v : Value} {l : List UInt8} (hA : ∀ k, A k → k < w.heap.size) (e : Ext w w7) (h : Bytes w A v l) (hk : Keeps G w7 wz) (hG : ∀ k, G k → w.heap.size ≤ k ∧ k < w6.heap.size) :
 Bytes wz (fun k => A k ∨ (w.heap.size ≤ k ∧ k < wz.heap.size)) v l :=
 ((h.ext e).keeps hk fun k hk' hg => by have := hG k hg; have := hA k hk'; omega).mono fun k h => .inl h
theorem doffer_any {A : Nat → Prop} (W w : World) (hT : Tabs W) (hE : Ext W w) (v : Value) (s : Ss) (n : Nat) (hok : OkSs s n) (hn : n ≤ 1000000) (i : Int) (e : En) (t : List UInt8) (hl1 : e.text.length ≤ 300) (hl2 : t.length ≤ 300) (h : DocAt w A v s) (hA : ∀ k, A k → k < w.heap.size) :
 Calls Tryz.prog 29 #[v, .int .i64 i, .agg e.cells.toArray, .string (bs t)] w fun r w' => ∃ v', r = .returned (.tuple #[v', .int .i64 (s.offer i e t).2]) ∧ DocPost w A (s.offer i e t).1 v' w' := by
 obtain ⟨a, c, p, q, rfl, h1, h2⟩ := h
 have HM := Lib.hid (Mem.start0 w)
 have H1 := Lib.hid h1
 have H2 := Lib.hid h2
 clear h1 h2
 have HE := Lib.hid hE
 have HOK := Lib.hid hok
 have HA := Lib.hid hA
 clear hE hok hA
 unfold En.cells
 cases hsd : sdB (lineS i e t) with
 | false =>
   have HSD := Lib.hid hsd
   have ho : s.offer i e t = (s, 2) := by unfold Ss.offer; rw [if_pos hsd]
   rw [ho]
   clear ho hsd
   go_enter Tryz.func29, Tryz.ntmps29
   have fM := HM.out.fa
   go_wp2_with ((with_reducible refine at_list ?_); ((first | ((with_reducible refine at_box 73 _ rfl ?_); refine boW 73 _ rfl rfl rfl HM.out ?_; intro w9 n9 M) | ((with_reducible refine at_alloc 73 rfl ?_); refine alW 73 rfl rfl (zeroDS _) HM.out ?_; intro w9 n9 M)); replace HM := Lib.hid M; clear M; clear fM; have fM := HM.out.fa))
   all_goals clear fM
   refine nxt HM fun w1 M => ?_
   clear HM; have HM := M; clear M
   refine (docRight_any W w1 hT (HE.out.ext HM.out.extTo) (lineS i e t) ⟨by simp [lineS, Sd.of], by show e.text.length ≤ _; omega, by show t.length ≤ _; omega⟩).mono ?_
   rintro r w2 ⟨rfl, hE2⟩
   rw [HSD.out]
   replace HM := Lib.hid (HM.out.ext hE2)
   clear hE2
   have fM := HM.out.fa
   go_wp2_with ((with_reducible refine at_list ?_); first | ((with_reducible refine at_load 73 _ rfl ?_); refine ldW 73 _ rfl rfl rfl HM.out Tryz.underlying73 rfl infoDS ?_) | (((with_reducible refine at_store 73 _ _ rfl ?_); refine stW 73 _ _ rfl rfl rfl rfl HM.out infoDS ?_; intro w9 M); replace HM := Lib.hid M; clear M; clear fM; have fM := HM.out.fa))
   all_goals clear fM
   refine nxt HM fun w3 M => ?_
   clear HM; have HM := M; clear M
   refine bodyPost_ret (results_ct rfl _ rfl (loadVar_wide 73 HM.out (by with_reducible repeat first | exact ph | apply pt) Tryz.underlying73 rfl (by exact infoDS))) rfl ?_
   exact ⟨_, rfl, ⟨_, _, _, _, rfl, (H1.out.itExt HM.out.extTo).itMono (fun k h => .inl h), (H2.out.ext HM.out.extTo).mono (fun k h => .inl h)⟩, HM.out.extTo⟩
 | true =>
   have HSD := Lib.hid hsd
   have hnf : ¬ sdB (lineS i e t) = false := by rw [hsd]; decide
   have hib : i ≤ 2147483647 := by
    unfold sdB at hsd
    rw [show (lineS i e t).kind = 9 from rfl] at hsd
    simp only [partsOf] at hsd
    simp [Part.may, lineS] at hsd
    exact hsd.2.1.2
   cases hc : s.closed with
   | true =>
     have ho : s.offer i e t = (s, 360) := by unfold Ss.offer; rw [if_neg hnf, if_pos hc]
     rw [ho]
     clear ho hsd hnf
     go_enter Tryz.func29, Tryz.ntmps29
     have fM := HM.out.fa
     go_wp2_with ((with_reducible refine at_list ?_); ((first | ((with_reducible refine at_box 73 _ rfl ?_); refine boW 73 _ rfl rfl rfl HM.out ?_; intro w9 n9 M) | ((with_reducible refine at_alloc 73 rfl ?_); refine alW 73 rfl rfl (zeroDS _) HM.out ?_; intro w9 n9 M)); replace HM := Lib.hid M; clear M; clear fM; have fM := HM.out.fa))
     all_goals clear fM
     refine nxt HM fun w1 M => ?_
     clear HM; have HM := M; clear M
     refine (docRight_any W w1 hT (HE.out.ext HM.out.extTo) (lineS i e t) ⟨by simp [lineS, Sd.of], by show e.text.length ≤ _; omega, by show t.length ≤ _; omega⟩).mono ?_
     rintro r w2 ⟨rfl, hE2⟩
     rw [HSD.out]
     replace HM := Lib.hid (HM.out.ext hE2)
     clear hE2
     have fM := HM.out.fa
     go_wp2_with ((with_reducible refine at_list ?_); first | ((with_reducible refine at_load 73 _ rfl ?_); refine ldW 73 _ rfl rfl rfl HM.out Tryz.underlying73 rfl infoDS ?_) | (((with_reducible refine at_store 73 _ _ rfl ?_); refine stW 73 _ _ rfl rfl rfl rfl HM.out infoDS ?_; intro w9 M); replace HM := Lib.hid M; clear M; clear fM; have fM := HM.out.fa))
     all_goals clear fM
     refine nxt HM fun w3 M => ?_
     clear HM; have HM := M; clear M
     refine bodyPost_ret (results_ct rfl _ rfl (loadVar_wide 73 HM.out (by with_reducible repeat first | exact ph | apply pt) Tryz.underlying73 rfl (by exact infoDS))) rfl ?_
     exact ⟨_, rfl, ⟨_, _, _, _, rfl, (H1.out.itExt HM.out.extTo).itMono (fun k h => .inl h), (H2.out.ext HM.out.extTo).mono (fun k h => .inl h)⟩, HM.out.extTo⟩
   | false =>
     have hcf : ¬ s.closed = true := by rw [hc]; decide
     by_cases hi : i = s.next
     case neg =>
      have ho : s.offer i e t = (s, 320) := by unfold Ss.offer; rw [if_neg hnf, if_neg hcf, if_pos hi]
      rw [ho]
      have g1 : (i != s.next) = true := by simpa using hi
      have g2 : (i == s.next) = false := by simpa using hi
      clear ho hsd hnf hcf
      go_enter Tryz.func29, Tryz.ntmps29
      have fM := HM.out.fa
      go_wp2_with ((with_reducible refine at_list ?_); ((first | ((with_reducible refine at_box 73 _ rfl ?_); refine boW 73 _ rfl rfl rfl HM.out ?_; intro w9 n9 M) | ((with_reducible refine at_alloc 73 rfl ?_); refine alW 73 rfl rfl (zeroDS _) HM.out ?_; intro w9 n9 M)); replace HM := Lib.hid M; clear M; clear fM; have fM := HM.out.fa))
      all_goals clear fM
      refine nxt HM fun w1 M => ?_
      clear HM; have HM := M; clear M
      refine (docRight_any W w1 hT (HE.out.ext HM.out.extTo) (lineS i e t) ⟨by simp [lineS, Sd.of], by show e.text.length ≤ _; omega, by show t.length ≤ _; omega⟩).mono ?_
      rintro r w2 ⟨rfl, hE2⟩
      rw [HSD.out]
      replace HM := Lib.hid (HM.out.ext hE2)
      clear hE2
      have fM := HM.out.fa
      go_wp2_with ((with_reducible refine at_list ?_); first | ((with_reducible refine at_load 73 _ rfl ?_); refine ldW 73 _ rfl rfl rfl HM.out Tryz.underlying73 rfl infoDS ?_) | (((with_reducible refine at_store 73 _ _ rfl ?_); refine stW 73 _ _ rfl rfl rfl rfl HM.out infoDS ?_; intro w9 M); replace HM := Lib.hid M; clear M; clear fM; have fM := HM.out.fa))
      all_goals clear fM
      refine nxt HM fun w3 M => ?_
      clear HM; have HM := M; clear M
      refine bodyPost_ret (results_ct rfl _ rfl (loadVar_wide 73 HM.out (by with_reducible repeat first | exact ph | apply pt) Tryz.underlying73 rfl (by exact infoDS))) rfl ?_
      exact ⟨_, rfl, ⟨_, _, _, _, rfl, (H1.out.itExt HM.out.extTo).itMono (fun k h => .inl h), (H2.out.ext HM.out.extTo).mono (fun k h => .inl h)⟩, HM.out.extTo⟩
     subst hi
     obtain ⟨b, hbe⟩ : ∃ b, rawS (lineS s.next e t) = b := ⟨_, rfl⟩
     have hrl := raw_len _ hsd
     rw [hbe] at hrl
     obtain ⟨⟨R', n1, e1⟩, hp⟩ : ∃ p, s.ring.put ⟨false, 0, b⟩ = p := ⟨_, rfl⟩
     have HP := Lib.hid hp
     have HBE := Lib.hid hbe
     have HRL := Lib.hid hrl
     have HI := Lib.hid hib
     have hpm := put_most s.ring ⟨false, 0, b⟩
     rw [hp] at hpm
     dsimp only at hpm
     have HPM := Lib.hid hpm
     by_cases he : e1 = 0
     · subst he
       have ho : s.offer s.next e t = ({ s with ring := R', next := s.next + 1 }, 0) := by
        unfold Ss.offer; rw [if_neg hnf, if_neg hcf, if_neg (fun h => h rfl), hbe, hp]; rfl
       rw [ho]
       clear ho hsd hnf hcf hp hbe hrl hib hpm
       have hw : wrap64 (s.next + 1) = s.next + 1 := IntWalk.wrap64_in _ (by have := HOK.out.next1; have := HOK.out.next0; have := HOK.out.sent0; have := HOK.out.ack0; omega)
       have HW := Lib.hid hw
       clear hw
       go_enter Tryz.func29, Tryz.ntmps29
       have fM := HM.out.fa
       go_wp2_with ((with_reducible refine at_list ?_); ((first | ((with_reducible refine at_box 73 _ rfl ?_); refine boW 73 _ rfl rfl rfl HM.out ?_; intro w9 n9 M) | ((with_reducible refine at_alloc 73 rfl ?_); refine alW 73 rfl rfl (zeroDS _) HM.out ?_; intro w9 n9 M)); replace HM := Lib.hid M; clear M; clear fM; have fM := HM.out.fa))
       all_goals clear fM
       refine nxt HM fun w1 M => ?_
       clear HM; have HM := M; clear M
       refine (docRight_any W w1 hT (HE.out.ext HM.out.extTo) (lineS s.next e t) ⟨by simp [lineS, Sd.of], by show e.text.length ≤ _; omega, by show t.length ≤ _; omega⟩).mono ?_
       rintro r w2 ⟨rfl, hE2⟩
       rw [HSD.out]
       replace HM := Lib.hid (HM.out.ext hE2)
       clear hE2
       have fM := HM.out.fa
       go_wp2_with fail
       all_goals clear fM
       refine nxt HM fun w3 M => ?_
       clear HM; have HM := M; clear M
       have fM := HM.out.fa
       have hE0 : Keeps NoB w3 w3.drew := (Keeps.refl _ _).drew
       refine wp_region_forks [1, 2] [3, 5, 10, 11, 12, 13] (ClsE w3) (by kernel_rfl) ?_
       refine any_seg (L := #[true, true, true, false, false, false, false, false, false, false, false, false, false, false]) [(0, 0), (1, 1), (1, 2)] 11 (by kernel_rfl) (fun _ _ _ d _ h => by cases d <;> exact h) (by kernel_rfl) (by kernel_rfl) rfl rfl (ClsE.of (by repeat (first | assumption | exact Keeps.refl _ _ | refine Keeps.alloc ?_ _ | refine Keeps.setOne ?_ _ _ | refine Keeps.setCell ?_ _ _ (.inl (by first | rfl | exact .inl rfl | exact .inr rfl | omega)) | refine Keeps.drew ?_))) ?_; simp only [planL, nL]
       refine pR rfl (fun W => by go_simp <;> with_reducible rfl) ?_; simp only [nP]
       iterate 2 (refine pL rfl (fun W => by go_simp <;> with_reducible rfl) ?_; simp only [nP])
       refine plan_nil ?_
       refine any_fork 3 10 (by kernel_rfl) (by kernel_rfl) rfl rfl rfl rfl (fun K hK => ?_) (fun K hK => ?_)
       · skip
         go_wp2_with fail
         skip
         refine Mem.callE (wr := w3) HM.out.to (by repeat (first | assumption | exact Keeps.refl _ _ | with_reducible apply Keeps.drew | with_reducible apply Keeps.alloc)) fun w4 M hE4 => ?_
         replace HM := Lib.hid M
         clear M
         refine (docRaw_any w4 (lineS s.next e t) HSD.out ⟨by simp [lineS, Sd.of], hl1, hl2⟩).mono ?_
         rintro r w5 ⟨v5, rfl, hU⟩
         have hE5 := hE4.ext hU.keepsTo
         rw [show frameL (bodyL (lineS s.next e t)) = b from HBE.out] at hU
         replace HM := Lib.hid (HM.out.newU hU)
         obtain ⟨a5, c5, rfl⟩ := HM.out.fact fun A h => bytR.len h
         clear hU hE4
         clear w4
         refine hK _ _ ⟨ClsE.of (by assumption), ?_⟩; clear hK K; try simp only [nP]
         refine any_seg (L := #[true, true, true, true, true, false, false, false, false, false, false, false, false, false]) [(0, 4)] 9 (by kernel_rfl) (fun _ _ _ d _ h => by cases d <;> exact h) (by kernel_rfl) (by kernel_rfl) rfl rfl (ClsE.of (by repeat (first | assumption | exact Keeps.refl _ _ | refine Keeps.alloc ?_ _ | refine Keeps.setOne ?_ _ _ | refine Keeps.setCell ?_ _ _ (.inl (by first | rfl | exact .inl rfl | exact .inr rfl | omega)) | refine Keeps.drew ?_))) ?_; simp only [planL, nL]
         refine pR rfl (fun W => by go_simp <;> with_reducible rfl) ?_; simp only [nP]
         refine plan_nil ?_
         refine any_fork 5 10 (by kernel_rfl) (by kernel_rfl) rfl rfl rfl rfl (fun K hK => ?_) (fun K hK => ?_)
         · skip
           go_wp2_with fail
           skip
           refine Mem.callE (wr := w3) HM.out.to (by repeat (first | assumption | exact Keeps.refl _ _ | with_reducible apply Keeps.drew | with_reducible apply Keeps.alloc)) fun w6 M hE6 => ?_
           replace HM := Lib.hid M
           clear M
           refine (rput_any w6 _ _ s.ring ⟨false, 0, b⟩ ⟨_, rfl, H1.out.itExt HM.out.extTo⟩ ⟨_, rfl, HM.out.newBytes (v := .slice a5 b.length c5) (l := b) pk⟩ (by have := HOK.out.len; have := HOK.out.most; omega) (by have := HOK.out.most; omega) (Nat.le_trans HOK.out.lost hn) (by have := HRL.out; dsimp only; omega) (fun k hk => Nat.lt_of_lt_of_le (HA.out k hk) HM.out.extTo.size) (fun k hk => hk.2)).mono ?_
           rintro r w7 ⟨v7, rfl, ⟨sv, rfl, hsl⟩, hE⟩
           have hE7 := hE6.ext hE
           have hsz := HM.out.extTo.size
           rw [HP.out] at hsl ⊢
           dsimp only at hsl ⊢
           obtain ⟨a7, c7, rfl, -⟩ := hsl.itAt
           obtain ⟨G, hm7, hG⟩ := HM.out.rebase hE
           have H7 := Lib.hid hsl
           have HG := Lib.hid hG
           have HEW := Lib.hid (HM.out.extTo.ext hE)
           have HSZ := Lib.hid hsz
           replace HM := Lib.hid hm7
           clear hE hE6 hsl hsz hm7 hG
           refine hK _ _ ⟨ClsE.of (by assumption), ?_⟩; clear hK K; try simp only [nP]
           refine any_end [(0, 6), (0, 7), (0, 8), (0, 9), (2, 10)] [11, 12, 13] (by kernel_rfl) (fun _ _ _ d _ h => by cases d <;> exact h) (by kernel_rfl) (by kernel_rfl) rfl rfl (ClsE.of (by repeat (first | assumption | exact Keeps.refl _ _ | refine Keeps.alloc ?_ _ | refine Keeps.setOne ?_ _ _ | refine Keeps.setCell ?_ _ _ (.inl (by first | rfl | exact .inl rfl | exact .inr rfl | omega)) | refine Keeps.drew ?_))) ?_; simp only [planL, nL]
           refine pM _ rfl rfl ?_; simp only [nP, nE]
           iterate 3 (refine pR rfl (fun W => by go_simp <;> with_reducible rfl) ?_; simp only [nP])
           refine plan_does rfl (fun K hK => ?_)
           go_wp2_with fail
           refine ⟨ClsE.of (by repeat (first | assumption | exact Keeps.refl _ _ | refine Keeps.alloc ?_ _ | refine Keeps.setOne ?_ _ _ | refine Keeps.setCell ?_ _ _ (.inl (by first | rfl | exact .inl rfl | exact .inr rfl | omega)) | refine Keeps.drew ?_)), ?_⟩; try simp only [nP]
           refine plan_nil ?_; simp only [tailL, List.filterMap_cons, List.filterMap_nil, nL]; change wpList _ _ _ (_ :: _ :: _ :: []) _ _
           skip
           clear fM
           have hw := HW.out
           have fM := HM.out.fa
           go_wp2_with ((with_reducible refine at_list ?_); first | ((with_reducible refine at_load 73 _ rfl ?_); refine ldW 73 _ rfl rfl rfl HM.out Tryz.underlying73 rfl infoDS ?_) | (((with_reducible refine at_store 73 _ _ rfl ?_); refine stW 73 _ _ rfl rfl rfl rfl HM.out infoDS ?_; intro w9 M); replace HM := Lib.hid M; clear M; clear fM; have fM := HM.out.fa))
           all_goals clear fM
           refine nxt HM fun wz M => ?_
           clear HM; have HM := M; clear M
           refine bodyPost_ret (results_ct rfl _ rfl (loadVar_wide 73 HM.out (by with_reducible repeat first | exact ph | apply pt) Tryz.underlying73 rfl (by exact infoDS))) rfl ?_
           rw [← HPM.out]
           exact ⟨_, rfl, ⟨_, _, _, _, rfl, slv_rebase HA.out HSZ.out H7.out HM.out.keepsTo HG.out, byt_rebase HA.out HEW.out H2.out HM.out.keepsTo HG.out⟩, ext_rebase HEW.out HM.out.keepsTo HG.out⟩
         · skip
           go_wp2_with fail
           refine ⟨ClsE.of (by repeat (first | assumption | exact Keeps.refl _ _ | refine Keeps.alloc ?_ _ | refine Keeps.setOne ?_ _ _ | refine Keeps.setCell ?_ _ _ (.inl (by first | rfl | exact .inl rfl | exact .inr rfl | omega)) | refine Keeps.drew ?_)), ?_⟩; try simp only [nP]
           refine any_end [(2, 5), (0, 6), (0, 7), (0, 8), (0, 9)] [11, 12, 13] (by kernel_rfl) (fun _ _ _ d _ h => by cases d <;> exact h) (by kernel_rfl) (by kernel_rfl) rfl rfl (ClsE.of (by repeat (first | assumption | exact Keeps.refl _ _ | refine Keeps.alloc ?_ _ | refine Keeps.setOne ?_ _ _ | refine Keeps.setCell ?_ _ _ (.inl (by first | rfl | exact .inl rfl | exact .inr rfl | omega)) | refine Keeps.drew ?_))) ?_; simp only [planL, nL]
           refine plan_does rfl (fun K hK => ?_)
           go_wp2_with fail
           skip
           refine Mem.callE (wr := w3) HM.out.to (by repeat (first | assumption | exact Keeps.refl _ _ | with_reducible apply Keeps.drew | with_reducible apply Keeps.alloc)) fun w6 M hE6 => ?_
           replace HM := Lib.hid M
           clear M
           refine (rput_any w6 _ _ s.ring ⟨false, 0, b⟩ ⟨_, rfl, H1.out.itExt HM.out.extTo⟩ ⟨_, rfl, HM.out.newBytes (v := .slice a5 b.length c5) (l := b) pk⟩ (by have := HOK.out.len; have := HOK.out.most; omega) (by have := HOK.out.most; omega) (Nat.le_trans HOK.out.lost hn) (by have := HRL.out; dsimp only; omega) (fun k hk => Nat.lt_of_lt_of_le (HA.out k hk) HM.out.extTo.size) (fun k hk => hk.2)).mono ?_
           rintro r w7 ⟨v7, rfl, ⟨sv, rfl, hsl⟩, hE⟩
           have hE7 := hE6.ext hE
           have hsz := HM.out.extTo.size
           rw [HP.out] at hsl ⊢
           dsimp only at hsl ⊢
           obtain ⟨a7, c7, rfl, -⟩ := hsl.itAt
           obtain ⟨G, hm7, hG⟩ := HM.out.rebase hE
           have H7 := Lib.hid hsl
           have HG := Lib.hid hG
           have HEW := Lib.hid (HM.out.extTo.ext hE)
           have HSZ := Lib.hid hsz
           replace HM := Lib.hid hm7
           clear hE hE6 hsl hsz hm7 hG
           refine hK _ _ ⟨ClsE.of (by assumption), ?_⟩; clear hK K; try simp only [nP]
           refine pM _ rfl rfl ?_; simp only [nP, nE]
           iterate 3 (refine pR rfl (fun W => by go_simp <;> with_reducible rfl) ?_; simp only [nP])
           refine plan_nil ?_; simp only [tailL, List.filterMap_cons, List.filterMap_nil, nL]; change wpList _ _ _ (_ :: _ :: _ :: []) _ _
           skip
           clear fM
           have hw := HW.out
           have fM := HM.out.fa
           go_wp2_with ((with_reducible refine at_list ?_); first | ((with_reducible refine at_load 73 _ rfl ?_); refine ldW 73 _ rfl rfl rfl HM.out Tryz.underlying73 rfl infoDS ?_) | (((with_reducible refine at_store 73 _ _ rfl ?_); refine stW 73 _ _ rfl rfl rfl rfl HM.out infoDS ?_; intro w9 M); replace HM := Lib.hid M; clear M; clear fM; have fM := HM.out.fa))
           all_goals clear fM
           refine nxt HM fun wz M => ?_
           clear HM; have HM := M; clear M
           refine bodyPost_ret (results_ct rfl _ rfl (loadVar_wide 73 HM.out (by with_reducible repeat first | exact ph | apply pt) Tryz.underlying73 rfl (by exact infoDS))) rfl ?_
           rw [← HPM.out]
           exact ⟨_, rfl, ⟨_, _, _, _, rfl, slv_rebase HA.out HSZ.out H7.out HM.out.keepsTo HG.out, byt_rebase HA.out HEW.out H2.out HM.out.keepsTo HG.out⟩, ext_rebase HEW.out HM.out.keepsTo HG.out⟩
       · skip
         go_wp2_with fail
         refine ⟨ClsE.of (by repeat (first | assumption | exact Keeps.refl _ _ | refine Keeps.alloc ?_ _ | refine Keeps.setOne ?_ _ _ | refine Keeps.setCell ?_ _ _ (.inl (by first | rfl | exact .inl rfl | exact .inr rfl | omega)) | refine Keeps.drew ?_)), ?_⟩; try simp only [nP]
         refine any_end [(2, 3), (0, 4), (2, 5), (0, 6), (0, 7), (0, 8), (0, 9)] [11, 12, 13] (by kernel_rfl) (fun _ _ _ d _ h => by cases d <;> exact h) (by kernel_rfl) (by kernel_rfl) rfl rfl (ClsE.of (by repeat (first | assumption | exact Keeps.refl _ _ | refine Keeps.alloc ?_ _ | refine Keeps.setOne ?_ _ _ | refine Keeps.setCell ?_ _ _ (.inl (by first | rfl | exact .inl rfl | exact .inr rfl | omega)) | refine Keeps.drew ?_))) ?_; simp only [planL, nL]
         refine plan_does rfl (fun K hK => ?_)
         go_wp2_with fail
         skip
         refine Mem.callE (wr := w3) HM.out.to (by repeat (first | assumption | exact Keeps.refl _ _ | with_reducible apply Keeps.drew | with_reducible apply Keeps.alloc)) fun w4 M hE4 => ?_
         replace HM := Lib.hid M
         clear M
         refine (docRaw_any w4 (lineS s.next e t) HSD.out ⟨by simp [lineS, Sd.of], hl1, hl2⟩).mono ?_
         rintro r w5 ⟨v5, rfl, hU⟩
         have hE5 := hE4.ext hU.keepsTo
         rw [show frameL (bodyL (lineS s.next e t)) = b from HBE.out] at hU
         replace HM := Lib.hid (HM.out.newU hU)
         obtain ⟨a5, c5, rfl⟩ := HM.out.fact fun A h => bytR.len h
         clear hU hE4
         clear w4
         refine hK _ _ ⟨ClsE.of (by assumption), ?_⟩; clear hK K; try simp only [nP]
         refine pR rfl (fun W => by go_simp <;> with_reducible rfl) ?_; simp only [nP]
         refine plan_does rfl (fun K hK => ?_)
         go_wp2_with fail
         skip
         refine Mem.callE (wr := w3) HM.out.to (by repeat (first | assumption | exact Keeps.refl _ _ | with_reducible apply Keeps.drew | with_reducible apply Keeps.alloc)) fun w6 M hE6 => ?_
         replace HM := Lib.hid M
         clear M
         refine (rput_any w6 _ _ s.ring ⟨false, 0, b⟩ ⟨_, rfl, H1.out.itExt HM.out.extTo⟩ ⟨_, rfl, HM.out.newBytes (v := .slice a5 b.length c5) (l := b) pk⟩ (by have := HOK.out.len; have := HOK.out.most; omega) (by have := HOK.out.most; omega) (Nat.le_trans HOK.out.lost hn) (by have := HRL.out; dsimp only; omega) (fun k hk => Nat.lt_of_lt_of_le (HA.out k hk) HM.out.extTo.size) (fun k hk => hk.2)).mono ?_
         rintro r w7 ⟨v7, rfl, ⟨sv, rfl, hsl⟩, hE⟩
         have hE7 := hE6.ext hE
         have hsz := HM.out.extTo.size
         rw [HP.out] at hsl ⊢
         dsimp only at hsl ⊢
         obtain ⟨a7, c7, rfl, -⟩ := hsl.itAt
         obtain ⟨G, hm7, hG⟩ := HM.out.rebase hE
         have H7 := Lib.hid hsl
         have HG := Lib.hid hG
         have HEW := Lib.hid (HM.out.extTo.ext hE)
         have HSZ := Lib.hid hsz
         replace HM := Lib.hid hm7
         clear hE hE6 hsl hsz hm7 hG
         refine hK _ _ ⟨ClsE.of (by assumption), ?_⟩; clear hK K; try simp only [nP]
         refine pM _ rfl rfl ?_; simp only [nP, nE]
         iterate 3 (refine pR rfl (fun W => by go_simp <;> with_reducible rfl) ?_; simp only [nP])
         refine plan_nil ?_; simp only [tailL, List.filterMap_cons, List.filterMap_nil, nL]; change wpList _ _ _ (_ :: _ :: _ :: []) _ _
         skip
         clear fM
         have hw := HW.out
         have fM := HM.out.fa
         go_wp2_with ((with_reducible refine at_list ?_); first | ((with_reducible refine at_load 73 _ rfl ?_); refine ldW 73 _ rfl rfl rfl HM.out Tryz.underlying73 rfl infoDS ?_) | (((with_reducible refine at_store 73 _ _ rfl ?_); refine stW 73 _ _ rfl rfl rfl rfl HM.out infoDS ?_; intro w9 M); replace HM := Lib.hid M; clear M; clear fM; have fM := HM.out.fa))
         all_goals clear fM
         refine nxt HM fun wz M => ?_
         clear HM; have HM := M; clear M
         refine bodyPost_ret (results_ct rfl _ rfl (loadVar_wide 73 HM.out (by with_reducible repeat first | exact ph | apply pt) Tryz.underlying73 rfl (by exact infoDS))) rfl ?_
         rw [← HPM.out]
         exact ⟨_, rfl, ⟨_, _, _, _, rfl, slv_rebase HA.out HSZ.out H7.out HM.out.keepsTo HG.out, byt_rebase HA.out HEW.out H2.out HM.out.keepsTo HG.out⟩, ext_rebase HEW.out HM.out.keepsTo HG.out⟩
     · have ho : s.offer s.next e t = ({ s with live := false }, 350) := by
        unfold Ss.offer; rw [if_neg hnf, if_neg hcf, if_neg (fun h => h rfl), hbe, hp, if_pos he]
       rw [ho]
       have HG1 := Lib.hid (show ((e1 : Int) != 0) = true by simp; omega)
       have HG2 := Lib.hid (show ((e1 : Int) == 0) = false by simp; omega)
       clear ho hsd hnf hcf hp hbe hrl hib hpm
       go_enter Tryz.func29, Tryz.ntmps29
       have fM := HM.out.fa
       go_wp2_with ((with_reducible refine at_list ?_); ((first | ((with_reducible refine at_box 73 _ rfl ?_); refine boW 73 _ rfl rfl rfl HM.out ?_; intro w9 n9 M) | ((with_reducible refine at_alloc 73 rfl ?_); refine alW 73 rfl rfl (zeroDS _) HM.out ?_; intro w9 n9 M)); replace HM := Lib.hid M; clear M; clear fM; have fM := HM.out.fa))
       all_goals clear fM
       refine nxt HM fun w1 M => ?_
       clear HM; have HM := M; clear M
       refine (docRight_any W w1 hT (HE.out.ext HM.out.extTo) (lineS s.next e t) ⟨by simp [lineS, Sd.of], by show e.text.length ≤ _; omega, by show t.length ≤ _; omega⟩).mono ?_
       rintro r w2 ⟨rfl, hE2⟩
       rw [HSD.out]
       replace HM := Lib.hid (HM.out.ext hE2)
       clear hE2
       have fM := HM.out.fa
       go_wp2_with fail
       all_goals clear fM
       refine nxt HM fun w3 M => ?_
       clear HM; have HM := M; clear M
       have fM := HM.out.fa
       have hE0 : Keeps NoB w3 w3.drew := (Keeps.refl _ _).drew
       refine wp_region_forks [1, 2] [3, 5, 10, 11, 12, 13] (ClsE w3) (by kernel_rfl) ?_
       refine any_seg (L := #[true, true, true, false, false, false, false, false, false, false, false, false, false, false]) [(0, 0), (1, 1), (1, 2)] 11 (by kernel_rfl) (fun _ _ _ d _ h => by cases d <;> exact h) (by kernel_rfl) (by kernel_rfl) rfl rfl (ClsE.of (by repeat (first | assumption | exact Keeps.refl _ _ | refine Keeps.alloc ?_ _ | refine Keeps.setOne ?_ _ _ | refine Keeps.setCell ?_ _ _ (.inl (by first | rfl | exact .inl rfl | exact .inr rfl | omega)) | refine Keeps.drew ?_))) ?_; simp only [planL, nL]
       refine pR rfl (fun W => by go_simp <;> with_reducible rfl) ?_; simp only [nP]
       iterate 2 (refine pL rfl (fun W => by go_simp <;> with_reducible rfl) ?_; simp only [nP])
       refine plan_nil ?_
       refine any_fork 3 10 (by kernel_rfl) (by kernel_rfl) rfl rfl rfl rfl (fun K hK => ?_) (fun K hK => ?_)
       · skip
         go_wp2_with fail
         skip
         refine Mem.callE (wr := w3) HM.out.to (by repeat (first | assumption | exact Keeps.refl _ _ | with_reducible apply Keeps.drew | with_reducible apply Keeps.alloc)) fun w4 M hE4 => ?_
         replace HM := Lib.hid M
         clear M
         refine (docRaw_any w4 (lineS s.next e t) HSD.out ⟨by simp [lineS, Sd.of], hl1, hl2⟩).mono ?_
         rintro r w5 ⟨v5, rfl, hU⟩
         have hE5 := hE4.ext hU.keepsTo
         rw [show frameL (bodyL (lineS s.next e t)) = b from HBE.out] at hU
         replace HM := Lib.hid (HM.out.newU hU)
         obtain ⟨a5, c5, rfl⟩ := HM.out.fact fun A h => bytR.len h
         clear hU hE4
         clear w4
         refine hK _ _ ⟨ClsE.of (by assumption), ?_⟩; clear hK K; try simp only [nP]
         refine any_seg (L := #[true, true, true, true, true, false, false, false, false, false, false, false, false, false]) [(0, 4)] 9 (by kernel_rfl) (fun _ _ _ d _ h => by cases d <;> exact h) (by kernel_rfl) (by kernel_rfl) rfl rfl (ClsE.of (by repeat (first | assumption | exact Keeps.refl _ _ | refine Keeps.alloc ?_ _ | refine Keeps.setOne ?_ _ _ | refine Keeps.setCell ?_ _ _ (.inl (by first | rfl | exact .inl rfl | exact .inr rfl | omega)) | refine Keeps.drew ?_))) ?_; simp only [planL, nL]
         refine pR rfl (fun W => by go_simp <;> with_reducible rfl) ?_; simp only [nP]
         refine plan_nil ?_
         refine any_fork 5 10 (by kernel_rfl) (by kernel_rfl) rfl rfl rfl rfl (fun K hK => ?_) (fun K hK => ?_)
         · skip
           go_wp2_with fail
           skip
           refine Mem.callE (wr := w3) HM.out.to (by repeat (first | assumption | exact Keeps.refl _ _ | with_reducible apply Keeps.drew | with_reducible apply Keeps.alloc)) fun w6 M hE6 => ?_
           replace HM := Lib.hid M
           clear M
           refine (rput_any w6 _ _ s.ring ⟨false, 0, b⟩ ⟨_, rfl, H1.out.itExt HM.out.extTo⟩ ⟨_, rfl, HM.out.newBytes (v := .slice a5 b.length c5) (l := b) pk⟩ (by have := HOK.out.len; have := HOK.out.most; omega) (by have := HOK.out.most; omega) (Nat.le_trans HOK.out.lost hn) (by have := HRL.out; dsimp only; omega) (fun k hk => Nat.lt_of_lt_of_le (HA.out k hk) HM.out.extTo.size) (fun k hk => hk.2)).mono ?_
           rintro r w7 ⟨v7, rfl, ⟨sv, rfl, hsl⟩, hE⟩
           have hE7 := hE6.ext hE
           have hsz := HM.out.extTo.size
           rw [HP.out] at hsl ⊢
           dsimp only at hsl ⊢
           obtain ⟨a7, c7, rfl, -⟩ := hsl.itAt
           obtain ⟨G, hm7, hG⟩ := HM.out.rebase hE
           have H7 := Lib.hid hsl
           have HG := Lib.hid hG
           have HEW := Lib.hid (HM.out.extTo.ext hE)
           have HSZ := Lib.hid hsz
           replace HM := Lib.hid hm7
           clear hE hE6 hsl hsz hm7 hG
           refine hK _ _ ⟨ClsE.of (by assumption), ?_⟩; clear hK K; try simp only [nP]
           refine any_end [(0, 6), (0, 7), (0, 8), (0, 9), (2, 10)] [11, 12, 13] (by kernel_rfl) (fun _ _ _ d _ h => by cases d <;> exact h) (by kernel_rfl) (by kernel_rfl) rfl rfl (ClsE.of (by repeat (first | assumption | exact Keeps.refl _ _ | refine Keeps.alloc ?_ _ | refine Keeps.setOne ?_ _ _ | refine Keeps.setCell ?_ _ _ (.inl (by first | rfl | exact .inl rfl | exact .inr rfl | omega)) | refine Keeps.drew ?_))) ?_; simp only [planL, nL]
           refine pM _ rfl rfl ?_; simp only [nP, nE]
           iterate 3 (refine pR rfl (fun W => by go_simp <;> with_reducible rfl) ?_; simp only [nP])
           refine plan_does rfl (fun K hK => ?_)
           go_wp2_with fail
           refine ⟨ClsE.of (by repeat (first | assumption | exact Keeps.refl _ _ | refine Keeps.alloc ?_ _ | refine Keeps.setOne ?_ _ _ | refine Keeps.setCell ?_ _ _ (.inl (by first | rfl | exact .inl rfl | exact .inr rfl | omega)) | refine Keeps.drew ?_)), ?_⟩; try simp only [nP]
           refine plan_nil ?_; simp only [tailL, List.filterMap_cons, List.filterMap_nil, nL]; change wpList _ _ _ (_ :: _ :: _ :: []) _ _
           skip
           clear fM
           have g1 := HG1.out
           have g2 := HG2.out
           have fM := HM.out.fa
           go_wp2_with ((with_reducible refine at_list ?_); first | ((with_reducible refine at_load 73 _ rfl ?_); refine ldW 73 _ rfl rfl rfl HM.out Tryz.underlying73 rfl infoDS ?_) | (((with_reducible refine at_store 73 _ _ rfl ?_); refine stW 73 _ _ rfl rfl rfl rfl HM.out infoDS ?_; intro w9 M); replace HM := Lib.hid M; clear M; clear fM; have fM := HM.out.fa))
           all_goals clear fM
           refine nxt HM fun wz M => ?_
           clear HM; have HM := M; clear M
           refine bodyPost_ret (results_ct rfl _ rfl (loadVar_wide 73 HM.out (by with_reducible repeat first | exact ph | apply pt) Tryz.underlying73 rfl (by exact infoDS))) rfl ?_
           exact ⟨_, rfl, ⟨_, _, _, _, rfl, slv_rebase0 HA.out HEW.out H1.out HM.out.keepsTo HG.out, byt_rebase HA.out HEW.out H2.out HM.out.keepsTo HG.out⟩, ext_rebase HEW.out HM.out.keepsTo HG.out⟩
         · skip
           go_wp2_with fail
           refine ⟨ClsE.of (by repeat (first | assumption | exact Keeps.refl _ _ | refine Keeps.alloc ?_ _ | refine Keeps.setOne ?_ _ _ | refine Keeps.setCell ?_ _ _ (.inl (by first | rfl | exact .inl rfl | exact .inr rfl | omega)) | refine Keeps.drew ?_)), ?_⟩; try simp only [nP]
           refine any_end [(2, 5), (0, 6), (0, 7), (0, 8), (0, 9)] [11, 12, 13] (by kernel_rfl) (fun _ _ _ d _ h => by cases d <;> exact h) (by kernel_rfl) (by kernel_rfl) rfl rfl (ClsE.of (by repeat (first | assumption | exact Keeps.refl _ _ | refine Keeps.alloc ?_ _ | refine Keeps.setOne ?_ _ _ | refine Keeps.setCell ?_ _ _ (.inl (by first | rfl | exact .inl rfl | exact .inr rfl | omega)) | refine Keeps.drew ?_))) ?_; simp only [planL, nL]
           refine plan_does rfl (fun K hK => ?_)
           go_wp2_with fail
           skip
           refine Mem.callE (wr := w3) HM.out.to (by repeat (first | assumption | exact Keeps.refl _ _ | with_reducible apply Keeps.drew | with_reducible apply Keeps.alloc)) fun w6 M hE6 => ?_
           replace HM := Lib.hid M
           clear M
           refine (rput_any w6 _ _ s.ring ⟨false, 0, b⟩ ⟨_, rfl, H1.out.itExt HM.out.extTo⟩ ⟨_, rfl, HM.out.newBytes (v := .slice a5 b.length c5) (l := b) pk⟩ (by have := HOK.out.len; have := HOK.out.most; omega) (by have := HOK.out.most; omega) (Nat.le_trans HOK.out.lost hn) (by have := HRL.out; dsimp only; omega) (fun k hk => Nat.lt_of_lt_of_le (HA.out k hk) HM.out.extTo.size) (fun k hk => hk.2)).mono ?_
           rintro r w7 ⟨v7, rfl, ⟨sv, rfl, hsl⟩, hE⟩
           have hE7 := hE6.ext hE
           have hsz := HM.out.extTo.size
           rw [HP.out] at hsl ⊢
           dsimp only at hsl ⊢
           obtain ⟨a7, c7, rfl, -⟩ := hsl.itAt
           obtain ⟨G, hm7, hG⟩ := HM.out.rebase hE
           have H7 := Lib.hid hsl
           have HG := Lib.hid hG
           have HEW := Lib.hid (HM.out.extTo.ext hE)
           have HSZ := Lib.hid hsz
           replace HM := Lib.hid hm7
           clear hE hE6 hsl hsz hm7 hG
           refine hK _ _ ⟨ClsE.of (by assumption), ?_⟩; clear hK K; try simp only [nP]
           refine pM _ rfl rfl ?_; simp only [nP, nE]
           iterate 3 (refine pR rfl (fun W => by go_simp <;> with_reducible rfl) ?_; simp only [nP])
           refine plan_nil ?_; simp only [tailL, List.filterMap_cons, List.filterMap_nil, nL]; change wpList _ _ _ (_ :: _ :: _ :: []) _ _
           skip
           clear fM
           have g1 := HG1.out
           have g2 := HG2.out
           have fM := HM.out.fa
           go_wp2_with ((with_reducible refine at_list ?_); first | ((with_reducible refine at_load 73 _ rfl ?_); refine ldW 73 _ rfl rfl rfl HM.out Tryz.underlying73 rfl infoDS ?_) | (((with_reducible refine at_store 73 _ _ rfl ?_); refine stW 73 _ _ rfl rfl rfl rfl HM.out infoDS ?_; intro w9 M); replace HM := Lib.hid M; clear M; clear fM; have fM := HM.out.fa))
           all_goals clear fM
           refine nxt HM fun wz M => ?_
           clear HM; have HM := M; clear M
           refine bodyPost_ret (results_ct rfl _ rfl (loadVar_wide 73 HM.out (by with_reducible repeat first | exact ph | apply pt) Tryz.underlying73 rfl (by exact infoDS))) rfl ?_
           exact ⟨_, rfl, ⟨_, _, _, _, rfl, slv_rebase0 HA.out HEW.out H1.out HM.out.keepsTo HG.out, byt_rebase HA.out HEW.out H2.out HM.out.keepsTo HG.out⟩, ext_rebase HEW.out HM.out.keepsTo HG.out⟩
       · skip
         go_wp2_with fail
         refine ⟨ClsE.of (by repeat (first | assumption | exact Keeps.refl _ _ | refine Keeps.alloc ?_ _ | refine Keeps.setOne ?_ _ _ | refine Keeps.setCell ?_ _ _ (.inl (by first | rfl | exact .inl rfl | exact .inr rfl | omega)) | refine Keeps.drew ?_)), ?_⟩; try simp only [nP]
         refine any_end [(2, 3), (0, 4), (2, 5), (0, 6), (0, 7), (0, 8), (0, 9)] [11, 12, 13] (by kernel_rfl) (fun _ _ _ d _ h => by cases d <;> exact h) (by kernel_rfl) (by kernel_rfl) rfl rfl (ClsE.of (by repeat (first | assumption | exact Keeps.refl _ _ | refine Keeps.alloc ?_ _ | refine Keeps.setOne ?_ _ _ | refine Keeps.setCell ?_ _ _ (.inl (by first | rfl | exact .inl rfl | exact .inr rfl | omega)) | refine Keeps.drew ?_))) ?_; simp only [planL, nL]
         refine plan_does rfl (fun K hK => ?_)
         go_wp2_with fail
         skip
         refine Mem.callE (wr := w3) HM.out.to (by repeat (first | assumption | exact Keeps.refl _ _ | with_reducible apply Keeps.drew | with_reducible apply Keeps.alloc)) fun w4 M hE4 => ?_
         replace HM := Lib.hid M
         clear M
         refine (docRaw_any w4 (lineS s.next e t) HSD.out ⟨by simp [lineS, Sd.of], hl1, hl2⟩).mono ?_
         rintro r w5 ⟨v5, rfl, hU⟩
         have hE5 := hE4.ext hU.keepsTo
         rw [show frameL (bodyL (lineS s.next e t)) = b from HBE.out] at hU
         replace HM := Lib.hid (HM.out.newU hU)
         obtain ⟨a5, c5, rfl⟩ := HM.out.fact fun A h => bytR.len h
         clear hU hE4
         clear w4
         refine hK _ _ ⟨ClsE.of (by assumption), ?_⟩; clear hK K; try simp only [nP]
         refine pR rfl (fun W => by go_simp <;> with_reducible rfl) ?_; simp only [nP]
         refine plan_does rfl (fun K hK => ?_)
         go_wp2_with fail
         skip
         refine Mem.callE (wr := w3) HM.out.to (by repeat (first | assumption | exact Keeps.refl _ _ | with_reducible apply Keeps.drew | with_reducible apply Keeps.alloc)) fun w6 M hE6 => ?_
         replace HM := Lib.hid M
         clear M
         refine (rput_any w6 _ _ s.ring ⟨false, 0, b⟩ ⟨_, rfl, H1.out.itExt HM.out.extTo⟩ ⟨_, rfl, HM.out.newBytes (v := .slice a5 b.length c5) (l := b) pk⟩ (by have := HOK.out.len; have := HOK.out.most; omega) (by have := HOK.out.most; omega) (Nat.le_trans HOK.out.lost hn) (by have := HRL.out; dsimp only; omega) (fun k hk => Nat.lt_of_lt_of_le (HA.out k hk) HM.out.extTo.size) (fun k hk => hk.2)).mono ?_
         rintro r w7 ⟨v7, rfl, ⟨sv, rfl, hsl⟩, hE⟩
         have hE7 := hE6.ext hE
         have hsz := HM.out.extTo.size
         rw [HP.out] at hsl ⊢
         dsimp only at hsl ⊢
         obtain ⟨a7, c7, rfl, -⟩ := hsl.itAt
         obtain ⟨G, hm7, hG⟩ := HM.out.rebase hE
         have H7 := Lib.hid hsl
         have HG := Lib.hid hG
         have HEW := Lib.hid (HM.out.extTo.ext hE)
         have HSZ := Lib.hid hsz
         replace HM := Lib.hid hm7
         clear hE hE6 hsl hsz hm7 hG
         refine hK _ _ ⟨ClsE.of (by assumption), ?_⟩; clear hK K; try simp only [nP]
         refine pM _ rfl rfl ?_; simp only [nP, nE]
         iterate 3 (refine pR rfl (fun W => by go_simp <;> with_reducible rfl) ?_; simp only [nP])
         refine plan_nil ?_; simp only [tailL, List.filterMap_cons, List.filterMap_nil, nL]; change wpList _ _ _ (_ :: _ :: _ :: []) _ _
         skip
         clear fM
         have g1 := HG1.out
         have g2 := HG2.out
         have fM := HM.out.fa
         go_wp2_with ((with_reducible refine at_list ?_); first | ((with_reducible refine at_load 73 _ rfl ?_); refine ldW 73 _ rfl rfl rfl HM.out Tryz.underlying73 rfl infoDS ?_) | (((with_reducible refine at_store 73 _ _ rfl ?_); refine stW 73 _ _ rfl rfl rfl rfl HM.out infoDS ?_; intro w9 M); replace HM := Lib.hid M; clear M; clear fM; have fM := HM.out.fa))
         all_goals clear fM
         refine nxt HM fun wz M => ?_
         clear HM; have HM := M; clear M
         refine bodyPost_ret (results_ct rfl _ rfl (loadVar_wide 73 HM.out (by with_reducible repeat first | exact ph | apply pt) Tryz.underlying73 rfl (by exact infoDS))) rfl ?_
         exact ⟨_, rfl, ⟨_, _, _, _, rfl, slv_rebase0 HA.out HEW.out H1.out HM.out.keepsTo HG.out, byt_rebase HA.out HEW.out H2.out HM.out.keepsTo HG.out⟩, ext_rebase HEW.out HM.out.keepsTo HG.out⟩
end
end Go.Proofs.YtoadjbgpfihoiaaGreatDoor
