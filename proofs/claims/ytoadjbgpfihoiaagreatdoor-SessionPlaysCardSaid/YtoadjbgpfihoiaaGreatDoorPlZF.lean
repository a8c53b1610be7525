/- Texts PartF, Check, SC, one behind the other. Conditions: as each says. -/
import Derived.Test.YtoadjbgpfihoiaaGreatDoorPlU
import Derived.Test.YtoadjbgpfihoiaaGreatDoorPlZD
set_option linter.unusedVariables false
set_option linter.unusedSimpArgs false
set_option maxHeartbeats 8000000
set_option maxRecDepth 100000
namespace Go.Proofs.YtoadjbgpfihoiaaGreatDoor
open Go.RowKit
def qPartF0 : List (Nat × Nat) := [(0, 0), (0, 1), (3, 2), (1, 4), (2, 3)]
theorem take_entry {A : Nat → Prop} (w : World) (b sb : Nat) (r : Rdr) (s : Sd) (hl : r.b.length ≤ 70368744177664) (h : SepL [readerR b r, cellsR sb 37 s.cells] A w) :
 Calls Tryz.prog 271 #[rdV b, .pointer (some ⟨sb, 0, none⟩)] w (TakeP A w b sb .entry r s) := by
 obtain ⟨⟨r1, x1, no1⟩, hq1⟩ : ∃ q, r.num 4 = q := ⟨_, rfl⟩; obtain ⟨⟨r2, x2, no2⟩, hq2⟩ : ∃ q, r1.num 15 = q := ⟨_, rfl⟩; obtain ⟨⟨r3, x3, no3⟩, hq3⟩ : ∃ q, r2.num 2147483647 = q := ⟨_, rfl⟩; obtain ⟨⟨r4, x4, no4⟩, hq4⟩ : ∃ q, r3.txt 200 = q := ⟨_, rfl⟩
 have hp : Part.take .entry r s = if x1 = 4 then (r4, { s with e := ⟨x1, x2, x3, x4⟩ }) else (r2, { s with e := ⟨x1, x2, s.e.number, s.e.text⟩ }) := by
  show (if (r.num 4).2.1 = 4 then _ else _) = _
  rw [hq1]; dsimp only; rw [hq2]; dsimp only; rw [hq3]; dsimp only; rw [hq4]
 have hl1 : r1.b.length ≤ r.b.length := by have := r.num_len 4; rwa [hq1] at this
 have hl2 : r2.b.length ≤ r1.b.length := by have := r1.num_len 15; rwa [hq2] at this
 have hl3 : r3.b.length ≤ r2.b.length := by have := r2.num_len 2147483647; rwa [hq3] at this
 have HQ := Hd (show _ ∧ _ ∧ _ ∧ _ from ⟨hq1, hq2, hq3, hq4⟩); have HLN := Hd (show r.b.length ≤ 70368744177664 ∧ r1.b.length ≤ 70368744177664 ∧ r2.b.length ≤ 70368744177664 ∧ r3.b.length ≤ 70368744177664 by omega); have s12 : r1.e ≠ 0 → r2 = r1 := fun h => by have := r1.num_err 15 h; rw [hq2] at this; exact congrArg Prod.fst this
 have s23 : r2.e ≠ 0 → r3 = r2 := fun h => by have := r2.num_err 2147483647 h; rw [hq3] at this; exact congrArg Prod.fst this
 have s34 : r3.e ≠ 0 → r4 = r3 := fun h => by have := Rdr.txt_sticky 200 h; have h2 := r3.num_err 200 h; have : r3.txt 200 = (r3, [], r3.e) := by (unfold Rdr.txt; rw [h2]; exact if_pos h)
                                              rw [hq4] at this; exact congrArg Prod.fst this
 clear hq1 hq2 hq3 hq4 hl1 hl2 hl3; have HM := Hd (Mem.start (F := A) (r := listR [readerR b r, cellsR sb 37 s.cells]) h).unlist; simp only [List.cons_append, List.nil_append] at HM; have HLL := Hd hl; unfold Sd.cells at HM; clear h hl; show Calls _ 271 _ _ _
 go_enter Tryz.func271, Tryz.ntmps271
 have fM := HM.out.fa; go_wp2_with fail; all_goals clear fM
 obtain ⟨kb, hkb⟩ : ∃ k, w.heap.size = k := ⟨_, rfl⟩; refine nxt HM fun w1 M => ?_
 replace HM := M; clear M; rw [hkb] at HM ⊢; clear hkb; obtain ⟨C, hC, hn1, hn2, hS⟩ := HM.out.apart2 (r := readerR b r) (b1 := kb) (b2 := sb) (by with_reducible repeat first | exact ph | apply pt) (by with_reducible repeat first | exact ph | apply pt) (by with_reducible repeat first | exact ph | apply pt); by_cases e1 : r1.e = 0
 case neg =>
  have hp' : Part.take .entry r s = (r1, (Part.take .entry r s).2) := by
   have h2 := s12 e1; subst h2; have h3 := s23 e1; subst h3; have h4 := s34 e1; subst h4; rw [hp]; split <;> rfl
  obtain ⟨s9, hs9⟩ : ∃ s9, (Part.take .entry r s).2 = s9 := ⟨_, rfl⟩; rw [hs9] at hp'; have HP := Hd hp'; have HE := Hd e1; clear hp hp' hs9 e1 s12 s23 s34; have fM := HM.out.fa; have hE0 : Keeps (C) w1 w1.drew := (Keeps.refl _ _).drew; refine rgK (C) qPartF0 [4] [3, 5, 6, 7, 8, 9, 10, 11] [5, 6, 7, 8, 9, 10, 11] ?_; simp only [qPartF0, planL, nL]; iterate 2 (refine pM _ rfl rfl ?_; simp only [nP, nE])
  refine pX rfl (by go_simp <;> with_reducible rfl) ?_; simp only [nP]; refine pK rfl (fun W => by go_simp <;> with_reducible rfl) ?_; simp only [nP]; refine plan_does rfl (fun K hK => ?_); go_wp2_with fail; refine (fnum_any _ b r 4 (by decide) HLN.out.1 (Res.keeps _ hC (Ext.drew0 w1) (fun _ _ => noB _))).mono ?_; rintro e w2 ⟨rfl, hU⟩; rw [HQ.out.1] at hU ⊢; dsimp only at hU ⊢; rw [if_neg HE.out]; unfold saidE; refine ⟨rfl, ?_⟩; replace HM := Hd (hS _ _ (hU.pre (Ext.drew0 w1))); clear hK K hE0 hU hS hC hn1 hn2 fM; unfold TakeP; rw [HP.out]; dsimp only; rw [if_neg HE.out]; exact ⟨rfl, s, fun h => absurd h HE.out, (Mem.list' (L1 := [readerR b r1, cellsR sb 37 (s : Sd).cells]) (L := []) (Mem.sub HM.out (by repeat first | exact Sub.nil | refine Sub.cons (by with_reducible repeat first | exact ph | apply pt) ?_))).upd⟩
 have HE1 := Hd e1; clear e1 s12; by_cases e2 : r2.e = 0
 case neg =>
  have hp' : Part.take .entry r s = (r2, (Part.take .entry r s).2) := by
   have h3 := s23 e2; subst h3; have h4 := s34 e2; subst h4; rw [hp]; split <;> rfl
  obtain ⟨s9, hs9⟩ : ∃ s9, (Part.take .entry r s).2 = s9 := ⟨_, rfl⟩; rw [hs9] at hp'; have HP := Hd hp'; have HE := Hd e2; clear hp hp' hs9 e2 s23 s34; have fM := HM.out.fa; have hE0 : Keeps (C) w1 w1.drew := (Keeps.refl _ _).drew; refine rgK (C) qPartF0 [4] [3, 5, 6, 7, 8, 9, 10, 11] [5, 6, 7, 8, 9, 10, 11] ?_; simp only [qPartF0, planL, nL]; iterate 2 (refine pM _ rfl rfl ?_; simp only [nP, nE])
  refine pX rfl (by go_simp <;> with_reducible rfl) ?_; simp only [nP]; refine pK rfl (fun W => by go_simp <;> with_reducible rfl) ?_; simp only [nP]; refine plan_does rfl (fun K hK => ?_); go_wp2_with fail; refine (fnum_any _ b r 4 (by decide) HLN.out.1 (Res.keeps _ hC (Ext.drew0 w1) (fun _ _ => noB _))).mono ?_; rintro e w2 ⟨rfl, hU⟩; rw [HQ.out.1] at hU ⊢; dsimp only at hU ⊢; rw [if_pos HE1.out]; have hU2 := hU.pre (Ext.drew0 w1); have hE1 := hU2.keepsTo; clear hU; refine hK _ _ ⟨ClsK.of (by assumption), ?_⟩; clear hK K; try simp only [nP]
  refine plan_nil ?_; simp only [tailL, List.filterMap_cons, List.filterMap_nil, nL]; change wpList _ _ _ (_ :: _ :: _ :: _ :: _ :: _ :: _ :: []) _ _; clear fM; replace HM := Hd (hS _ _ hU2); clear hU2 hE1 hE0 hS hC hn1 hn2; have fM := HM.out.fa; go_wp2_with fail; all_goals clear fM
  obtain ⟨C2, hC2, hS2⟩ := (HM.out.pick (r := readerR b r1) pk).step; refine (fnum_any _ b r1 15 (by decide) HLN.out.2.1 hC2).mono ?_; rintro e w3 ⟨rfl, hU⟩; rw [HQ.out.2.1] at hU ⊢; dsimp only at hU ⊢; replace HM := Hd (hS2 _ _ hU); clear hU hC2 hS2; clear C2; rw [if_neg HE.out]; unfold saidE; go_wp2_with fail; refine ⟨rfl, ?_⟩; unfold TakeP; rw [HP.out]; dsimp only; rw [if_neg HE.out]; exact ⟨rfl, s, fun h => absurd h HE.out, (Mem.list' (L1 := [readerR b r2, cellsR sb 37 (s : Sd).cells]) (L := []) (Mem.sub HM.out (by repeat first | exact Sub.nil | refine Sub.cons (by with_reducible repeat first | exact ph | apply pt) ?_))).upd⟩
 have HE2 := Hd e2; clear e2 s23; by_cases hx : x1 = 4
 case neg =>
  have HP := Hd (show Part.take .entry r s = (r2, { s with e := ⟨x1, x2, s.e.number, s.e.text⟩ }) by rw [hp, if_neg hx]); have hx' : ¬ (x1 : Int) = 4 := by omega
  clear hp s34 hx; have fM := HM.out.fa; have hE0 : Keeps (C) w1 w1.drew := (Keeps.refl _ _).drew; refine rgK (C) qPartF0 [4] [3, 5, 6, 7, 8, 9, 10, 11] [5, 6, 7, 8, 9, 10, 11] ?_; simp only [qPartF0, planL, nL]; iterate 2 (refine pM _ rfl rfl ?_; simp only [nP, nE])
  refine pX rfl (by go_simp <;> with_reducible rfl) ?_; simp only [nP]; refine pK rfl (fun W => by go_simp <;> with_reducible rfl) ?_; simp only [nP]; refine plan_does rfl (fun K hK => ?_); go_wp2_with fail; refine (fnum_any _ b r 4 (by decide) HLN.out.1 (Res.keeps _ hC (Ext.drew0 w1) (fun _ _ => noB _))).mono ?_; rintro e w2 ⟨rfl, hU⟩; rw [HQ.out.1] at hU ⊢; dsimp only at hU ⊢; rw [if_pos HE1.out]; have hU2 := hU.pre (Ext.drew0 w1); have hE1 := hU2.keepsTo; clear hU; refine hK _ _ ⟨ClsK.of (by assumption), ?_⟩; clear hK K; try simp only [nP]
  refine plan_nil ?_; simp only [tailL, List.filterMap_cons, List.filterMap_nil, nL]; change wpList _ _ _ (_ :: _ :: _ :: _ :: _ :: _ :: _ :: []) _ _; clear fM; replace HM := Hd (hS _ _ hU2); clear hU2 hE1 hE0 hS hC hn1 hn2; have fM := HM.out.fa; go_wp2_with fail; all_goals clear fM
  obtain ⟨C2, hC2, hS2⟩ := (HM.out.pick (r := readerR b r1) pk).step; refine (fnum_any _ b r1 15 (by decide) HLN.out.2.1 hC2).mono ?_; rintro e w3 ⟨rfl, hU⟩; rw [HQ.out.2.1] at hU ⊢; dsimp only at hU ⊢; replace HM := Hd (hS2 _ _ hU); clear hU hC2 hS2; clear C2; rw [if_pos HE2.out]; have fM := HM.out.fa; go_wp2_with fail; all_goals clear fM
  go_end0
  unfold TakeP; rw [HP.out]; dsimp only; rw [if_pos HE2.out]; refine ⟨rfl, { s with e := ⟨x1, x2, s.e.number, s.e.text⟩ }, fun _ => rfl, ?_⟩; refine nxt HM fun w4 M => ?_
  replace HM := M; clear M; exact (Mem.list' (L1 := [readerR b r2, cellsR sb 37 ({ s with e := ⟨x1, x2, s.e.number, s.e.text⟩ } : Sd).cells]) (L := []) (Mem.sub HM.out (by repeat first | exact Sub.nil | refine Sub.cons (by with_reducible repeat first | exact ph | apply pt) ?_))).upd
 subst hx; have HP4 := Hd (show Part.take .entry r s = (r4, { s with e := ⟨4, x2, x3, x4⟩ }) by rw [hp, if_pos rfl]; rfl); clear hp; by_cases e3 : r3.e = 0
 case neg =>
  have h4 := s34 e3; subst h4; have HP := Hd HP4.out; have HE := Hd e3; clear e3 s34 HP4; have fM := HM.out.fa; have hE0 : Keeps (C) w1 w1.drew := (Keeps.refl _ _).drew; refine rgK (C) qPartF0 [4] [3, 5, 6, 7, 8, 9, 10, 11] [5, 6, 7, 8, 9, 10, 11] ?_; simp only [qPartF0, planL, nL]; iterate 2 (refine pM _ rfl rfl ?_; simp only [nP, nE])
  refine pX rfl (by go_simp <;> with_reducible rfl) ?_; simp only [nP]; refine pK rfl (fun W => by go_simp <;> with_reducible rfl) ?_; simp only [nP]; refine plan_does rfl (fun K hK => ?_); go_wp2_with fail; refine (fnum_any _ b r 4 (by decide) HLN.out.1 (Res.keeps _ hC (Ext.drew0 w1) (fun _ _ => noB _))).mono ?_; rintro e w2 ⟨rfl, hU⟩; rw [HQ.out.1] at hU ⊢; dsimp only at hU ⊢; rw [if_pos HE1.out]; have hU2 := hU.pre (Ext.drew0 w1); have hE1 := hU2.keepsTo; clear hU; refine hK _ _ ⟨ClsK.of (by assumption), ?_⟩; clear hK K; try simp only [nP]
  refine plan_nil ?_; simp only [tailL, List.filterMap_cons, List.filterMap_nil, nL]; change wpList _ _ _ (_ :: _ :: _ :: _ :: _ :: _ :: _ :: []) _ _; clear fM; replace HM := Hd (hS _ _ hU2); clear hU2 hE1 hE0 hS hC hn1 hn2; have fM := HM.out.fa; go_wp2_with fail; all_goals clear fM
  obtain ⟨C2, hC2, hS2⟩ := (HM.out.pick (r := readerR b r1) pk).step; refine (fnum_any _ b r1 15 (by decide) HLN.out.2.1 hC2).mono ?_; rintro e w3 ⟨rfl, hU⟩; rw [HQ.out.2.1] at hU ⊢; dsimp only at hU ⊢; replace HM := Hd (hS2 _ _ hU); clear hU hC2 hS2; clear C2; rw [if_pos HE2.out]; have fM := HM.out.fa; go_wp2_with fail; all_goals clear fM
  refine nxt HM fun w4 M => ?_
  replace HM := M; clear M; obtain ⟨C, hC, hn1, hn2, hS⟩ := HM.out.apart2 (r := readerR b r2) (b1 := kb) (b2 := sb) (by with_reducible repeat first | exact ph | apply pt) (by with_reducible repeat first | exact ph | apply pt) (by with_reducible repeat first | exact ph | apply pt); have fM := HM.out.fa; have hE0 : Keeps (C) w4 w4.drew := (Keeps.refl _ _).drew; refine rgK (C) qPartF0 [4] [3, 5, 6, 7, 8, 9, 10, 11] [5, 6, 7, 8, 9, 10, 11] ?_; simp only [qPartF0, planL, nL]; iterate 2 (refine pM _ rfl rfl ?_; simp only [nP, nE])
  refine pX rfl (by go_simp <;> with_reducible rfl) ?_; simp only [nP]; refine pK rfl (fun W => by go_simp <;> with_reducible rfl) ?_; simp only [nP]; refine plan_does rfl (fun K hK => ?_); go_wp2_with fail; refine (fnum_any _ b r2 2147483647 (by decide) HLN.out.2.2.1 (Res.keeps _ hC (Ext.drew0 w4) (fun _ _ => noB _))).mono ?_; rintro e w5 ⟨rfl, hU⟩; rw [HQ.out.2.2.1] at hU ⊢; dsimp only at hU ⊢; rw [if_neg HE.out]; unfold saidE; refine ⟨rfl, ?_⟩; replace HM := Hd (hS _ _ (hU.pre (Ext.drew0 w4))); clear hK K hE0 hU hS hC hn1 hn2 fM; unfold TakeP; rw [HP.out]; dsimp only; rw [if_neg HE.out]; exact ⟨rfl, { s with e := ⟨4, x2, s.e.number, s.e.text⟩ }, fun h => absurd h HE.out, (Mem.list' (L1 := [readerR b r4, cellsR sb 37 ({ s with e := ⟨4, x2, s.e.number, s.e.text⟩ } : Sd).cells]) (L := []) (Mem.sub HM.out (by repeat first | exact Sub.nil | refine Sub.cons (by with_reducible repeat first | exact ph | apply pt) ?_))).upd⟩
 have HE3 := Hd e3; clear e3 s34; by_cases e4 : r4.e = 0
 case neg =>
  have HP := Hd HP4.out; have HE := Hd e4; clear e4 HP4; have fM := HM.out.fa; have hE0 : Keeps (C) w1 w1.drew := (Keeps.refl _ _).drew; refine rgK (C) qPartF0 [4] [3, 5, 6, 7, 8, 9, 10, 11] [5, 6, 7, 8, 9, 10, 11] ?_; simp only [qPartF0, planL, nL]; iterate 2 (refine pM _ rfl rfl ?_; simp only [nP, nE])
  refine pX rfl (by go_simp <;> with_reducible rfl) ?_; simp only [nP]; refine pK rfl (fun W => by go_simp <;> with_reducible rfl) ?_; simp only [nP]; refine plan_does rfl (fun K hK => ?_); go_wp2_with fail; refine (fnum_any _ b r 4 (by decide) HLN.out.1 (Res.keeps _ hC (Ext.drew0 w1) (fun _ _ => noB _))).mono ?_; rintro e w2 ⟨rfl, hU⟩; rw [HQ.out.1] at hU ⊢; dsimp only at hU ⊢; rw [if_pos HE1.out]; have hU2 := hU.pre (Ext.drew0 w1); have hE1 := hU2.keepsTo; clear hU; refine hK _ _ ⟨ClsK.of (by assumption), ?_⟩; clear hK K; try simp only [nP]
  refine plan_nil ?_; simp only [tailL, List.filterMap_cons, List.filterMap_nil, nL]; change wpList _ _ _ (_ :: _ :: _ :: _ :: _ :: _ :: _ :: []) _ _; clear fM; replace HM := Hd (hS _ _ hU2); clear hU2 hE1 hE0 hS hC hn1 hn2; have fM := HM.out.fa; go_wp2_with fail; all_goals clear fM
  obtain ⟨C2, hC2, hS2⟩ := (HM.out.pick (r := readerR b r1) pk).step; refine (fnum_any _ b r1 15 (by decide) HLN.out.2.1 hC2).mono ?_; rintro e w3 ⟨rfl, hU⟩; rw [HQ.out.2.1] at hU ⊢; dsimp only at hU ⊢; replace HM := Hd (hS2 _ _ hU); clear hU hC2 hS2; clear C2; rw [if_pos HE2.out]; have fM := HM.out.fa; go_wp2_with fail; all_goals clear fM
  refine nxt HM fun w4 M => ?_
  replace HM := M; clear M; obtain ⟨C, hC, hn1, hn2, hS⟩ := HM.out.apart2 (r := readerR b r2) (b1 := kb) (b2 := sb) (by with_reducible repeat first | exact ph | apply pt) (by with_reducible repeat first | exact ph | apply pt) (by with_reducible repeat first | exact ph | apply pt); have fM := HM.out.fa; have hE0 : Keeps (C) w4 w4.drew := (Keeps.refl _ _).drew; refine rgK (C) qPartF0 [4] [3, 5, 6, 7, 8, 9, 10, 11] [5, 6, 7, 8, 9, 10, 11] ?_; simp only [qPartF0, planL, nL]; iterate 2 (refine pM _ rfl rfl ?_; simp only [nP, nE])
  refine pX rfl (by go_simp <;> with_reducible rfl) ?_; simp only [nP]; refine pK rfl (fun W => by go_simp <;> with_reducible rfl) ?_; simp only [nP]; refine plan_does rfl (fun K hK => ?_); go_wp2_with fail; refine (fnum_any _ b r2 2147483647 (by decide) HLN.out.2.2.1 (Res.keeps _ hC (Ext.drew0 w4) (fun _ _ => noB _))).mono ?_; rintro e w5 ⟨rfl, hU⟩; rw [HQ.out.2.2.1] at hU ⊢; dsimp only at hU ⊢; rw [if_pos HE3.out]; have hU2 := hU.pre (Ext.drew0 w4); have hE1 := hU2.keepsTo; clear hU; refine hK _ _ ⟨ClsK.of (by assumption), ?_⟩; clear hK K; try simp only [nP]
  refine plan_nil ?_; simp only [tailL, List.filterMap_cons, List.filterMap_nil, nL]; change wpList _ _ _ (_ :: _ :: _ :: _ :: _ :: _ :: _ :: []) _ _; clear fM; replace HM := Hd (hS _ _ hU2); clear hU2 hE1 hE0 hS hC hn1 hn2; have fM := HM.out.fa; go_wp2_with fail; all_goals clear fM
  obtain ⟨C2, hC2, hS2⟩ := (HM.out.pick (r := readerR b r3) pk).step; refine (ftxt_any _ b r3 200 (by decide) HLN.out.2.2.2 hC2).mono ?_; rintro e w6 ⟨rfl, hU⟩; rw [HQ.out.2.2.2] at hU ⊢; dsimp only at hU ⊢; replace HM := Hd (hS2 _ _ hU); clear hU hC2 hS2; clear C2; rw [if_neg HE.out]; unfold saidE; go_wp2_with fail; refine ⟨rfl, ?_⟩; unfold TakeP; rw [HP.out]; dsimp only; rw [if_neg HE.out]; exact ⟨rfl, { s with e := ⟨4, x2, s.e.number, s.e.text⟩ }, fun h => absurd h HE.out, (Mem.list' (L1 := [readerR b r4, cellsR sb 37 ({ s with e := ⟨4, x2, s.e.number, s.e.text⟩ } : Sd).cells]) (L := []) (Mem.sub HM.out (by repeat first | exact Sub.nil | refine Sub.cons (by with_reducible repeat first | exact ph | apply pt) ?_))).upd⟩
 have HE := Hd e4; clear e4; have fM := HM.out.fa; have hE0 : Keeps (C) w1 w1.drew := (Keeps.refl _ _).drew; refine rgK (C) qPartF0 [4] [3, 5, 6, 7, 8, 9, 10, 11] [5, 6, 7, 8, 9, 10, 11] ?_; simp only [qPartF0, planL, nL]; iterate 2 (refine pM _ rfl rfl ?_; simp only [nP, nE])
 refine pX rfl (by go_simp <;> with_reducible rfl) ?_; simp only [nP]; refine pK rfl (fun W => by go_simp <;> with_reducible rfl) ?_; simp only [nP]; refine plan_does rfl (fun K hK => ?_); go_wp2_with fail; refine (fnum_any _ b r 4 (by decide) HLN.out.1 (Res.keeps _ hC (Ext.drew0 w1) (fun _ _ => noB _))).mono ?_; rintro e w2 ⟨rfl, hU⟩; rw [HQ.out.1] at hU ⊢; dsimp only at hU ⊢; rw [if_pos HE1.out]; have hU2 := hU.pre (Ext.drew0 w1); have hE1 := hU2.keepsTo; clear hU; refine hK _ _ ⟨ClsK.of (by assumption), ?_⟩; clear hK K; try simp only [nP]
 refine plan_nil ?_; simp only [tailL, List.filterMap_cons, List.filterMap_nil, nL]; change wpList _ _ _ (_ :: _ :: _ :: _ :: _ :: _ :: _ :: []) _ _; clear fM; replace HM := Hd (hS _ _ hU2); clear hU2 hE1 hE0 hS hC hn1 hn2; have fM := HM.out.fa; go_wp2_with fail; all_goals clear fM
 obtain ⟨C2, hC2, hS2⟩ := (HM.out.pick (r := readerR b r1) pk).step; refine (fnum_any _ b r1 15 (by decide) HLN.out.2.1 hC2).mono ?_; rintro e w3 ⟨rfl, hU⟩; rw [HQ.out.2.1] at hU ⊢; dsimp only at hU ⊢; replace HM := Hd (hS2 _ _ hU); clear hU hC2 hS2; clear C2; rw [if_pos HE2.out]; have fM := HM.out.fa; go_wp2_with fail; all_goals clear fM
 refine nxt HM fun w4 M => ?_
 replace HM := M; clear M; obtain ⟨C, hC, hn1, hn2, hS⟩ := HM.out.apart2 (r := readerR b r2) (b1 := kb) (b2 := sb) (by with_reducible repeat first | exact ph | apply pt) (by with_reducible repeat first | exact ph | apply pt) (by with_reducible repeat first | exact ph | apply pt); have fM := HM.out.fa; have hE0 : Keeps (C) w4 w4.drew := (Keeps.refl _ _).drew; refine rgK (C) qPartF0 [4] [3, 5, 6, 7, 8, 9, 10, 11] [5, 6, 7, 8, 9, 10, 11] ?_; simp only [qPartF0, planL, nL]; iterate 2 (refine pM _ rfl rfl ?_; simp only [nP, nE])
 refine pX rfl (by go_simp <;> with_reducible rfl) ?_; simp only [nP]; refine pK rfl (fun W => by go_simp <;> with_reducible rfl) ?_; simp only [nP]; refine plan_does rfl (fun K hK => ?_); go_wp2_with fail; refine (fnum_any _ b r2 2147483647 (by decide) HLN.out.2.2.1 (Res.keeps _ hC (Ext.drew0 w4) (fun _ _ => noB _))).mono ?_; rintro e w5 ⟨rfl, hU⟩; rw [HQ.out.2.2.1] at hU ⊢; dsimp only at hU ⊢; rw [if_pos HE3.out]; have hU2 := hU.pre (Ext.drew0 w4); have hE1 := hU2.keepsTo; clear hU; refine hK _ _ ⟨ClsK.of (by assumption), ?_⟩; clear hK K; try simp only [nP]
 refine plan_nil ?_; simp only [tailL, List.filterMap_cons, List.filterMap_nil, nL]; change wpList _ _ _ (_ :: _ :: _ :: _ :: _ :: _ :: _ :: []) _ _; clear fM; replace HM := Hd (hS _ _ hU2); clear hU2 hE1 hE0 hS hC hn1 hn2; have fM := HM.out.fa; go_wp2_with fail; all_goals clear fM
 obtain ⟨C2, hC2, hS2⟩ := (HM.out.pick (r := readerR b r3) pk).step; refine (ftxt_any _ b r3 200 (by decide) HLN.out.2.2.2 hC2).mono ?_; rintro e w6 ⟨rfl, hU⟩; rw [HQ.out.2.2.2] at hU ⊢; dsimp only at hU ⊢; replace HM := Hd (hS2 _ _ hU); clear hU hC2 hS2; clear C2; rw [if_pos HE.out]; have fM := HM.out.fa; go_wp2_with fail; all_goals clear fM
 go_end0
 unfold TakeP; rw [HP4.out]; dsimp only; rw [if_pos HE.out]; refine ⟨rfl, { s with e := ⟨4, x2, x3, x4⟩ }, fun _ => rfl, ?_⟩; refine nxt HM fun w9 M => ?_
 replace HM := M; clear M; exact (Mem.list' (L1 := [readerR b r4, cellsR sb 37 ({ s with e := ⟨4, x2, x3, x4⟩ } : Sd).cells]) (L := []) (Mem.sub HM.out (by repeat first | exact Sub.nil | refine Sub.cons (by with_reducible repeat first | exact ph | apply pt) ?_))).upd
theorem ptake_any {A : Nat → Prop} (w : World) (b sb : Nat) (p : Part) (r : Rdr) (s : Sd) (hl : r.b.length ≤ 70368744177664) (h : SepL [readerR b r, cellsR sb 37 s.cells] A w) :
 Calls Tryz.prog (takeF p) #[rdV b, .pointer (some ⟨sb, 0, none⟩)] w (TakeP A w b sb p r s) := by
 cases p
 · exact take_member w b sb 0 r s hl h
 · exact take_number w b sb _ r s hl h
 · exact take_index w b sb 0 r s hl h
 · exact take_is w b sb r s hl h
 · exact take_said w b sb 0 r s hl h
 · exact take_token w b sb 0 r s hl h
 · exact take_entry w b sb r s hl h
theorem partCells_eq (k : Nat) (p : Part) : partCells k p = [.func (.func (clearF p)) #[] #[], .func (.func (mayF k p).1) #[] (mayF k p).2, .func (.func (layF p)) #[] #[], .func (.func (takeF p)) #[] #[]] := by cases p <;> rfl
theorem partCells_len (k : Nat) (p : Part) : (partCells k p).length = 4 := by rw [partCells_eq]; rfl
theorem pcs_get (k : Nat) : ∀ (ps : List Part) (j i : Nat) (hj : j < ps.length), i < 4 → (pcs k ps)[j * 4 + i]? = (partCells k ps[j])[i]?
 | p :: ps, 0, i, hj, hi => by
   unfold pcs; rw [List.map_cons, List.flatten_cons, Nat.zero_mul, Nat.zero_add, List.getElem?_append_left (by rw [partCells_len]; exact hi)]; rfl
 | p :: ps, j + 1, i, hj, hi => by
   have ih := pcs_get k ps j i (by simpa using hj) hi; unfold pcs at ih ⊢; rw [List.map_cons, List.flatten_cons, List.getElem?_append_right (by rw [partCells_len]; omega), partCells_len, show (j + 1) * 4 + i - 4 = j * 4 + i by omega, ih]; rfl
theorem clear_enters (p : Part) : ∀ args w, (callFunc (clearF p) args).run Tryz.prog w = .ok (.enter (clearF p) args) w := by
 cases p
 · exact enters_of Tryz.func237 (by kernel_rfl) rfl
 · exact enters_of Tryz.func248 (by kernel_rfl) rfl
 · exact enters_of Tryz.func257 (by kernel_rfl) rfl
 · exact enters_of Tryz.func261 (by kernel_rfl) rfl
 · exact enters_of Tryz.func253 (by kernel_rfl) rfl
 · exact enters_of Tryz.func242 (by kernel_rfl) rfl
 · exact enters_of Tryz.func267 (by kernel_rfl) rfl
theorem lay_enters (p : Part) : ∀ args w, (callFunc (layF p) args).run Tryz.prog w = .ok (.enter (layF p) args) w := by
 cases p
 · exact enters_of Tryz.func240 (by kernel_rfl) rfl
 · exact enters_of Tryz.func251 (by kernel_rfl) rfl
 · exact enters_of Tryz.func259 (by kernel_rfl) rfl
 · exact enters_of Tryz.func263 (by kernel_rfl) rfl
 · exact enters_of Tryz.func255 (by kernel_rfl) rfl
 · exact enters_of Tryz.func244 (by kernel_rfl) rfl
 · exact enters_of Tryz.func270 (by kernel_rfl) rfl
theorem take_enters (p : Part) : ∀ args w, (callFunc (takeF p) args).run Tryz.prog w = .ok (.enter (takeF p) args) w := by
 cases p
 · exact enters_of Tryz.func241 (by kernel_rfl) rfl
 · exact enters_of Tryz.func252 (by kernel_rfl) rfl
 · exact enters_of Tryz.func260 (by kernel_rfl) rfl
 · exact enters_of Tryz.func265 (by kernel_rfl) rfl
 · exact enters_of Tryz.func256 (by kernel_rfl) rfl
 · exact enters_of Tryz.func246 (by kernel_rfl) rfl
 · exact enters_of Tryz.func271 (by kernel_rfl) rfl
theorem may_enters (k : Nat) (p : Part) : ∀ args w, (callFunc (mayF k p).1 args).run Tryz.prog w = .ok (.enter (mayF k p).1 args) w := by
 cases p
 · exact enters_of Tryz.func238 (by kernel_rfl) rfl
 · exact enters_of Tryz.func249 (by kernel_rfl) rfl
 · exact enters_of Tryz.func258 (by kernel_rfl) rfl
 · exact enters_of Tryz.func262 (by kernel_rfl) rfl
 · exact enters_of Tryz.func254 (by kernel_rfl) rfl
 · exact enters_of Tryz.func243 (by kernel_rfl) rfl
 · exact enters_of Tryz.func268 (by kernel_rfl) rfl
theorem parts_at {A : Nat → Prop} {w : World} {v : Value} {ps : List Part} (h : (partsR v ps).p A w) : ∃ a k, v = .slice a ps.length ps.length ∧ (∀ least, Part.number least ∈ ps → Box w k 2 [.int .i64 least]) ∧
 ∀ j (hj : j < ps.length), ∃ q, a = some ⟨q, 0, none⟩ ∧ q < w.heap.size ∧ w.cell? ⟨q, j * 4, none⟩ = some (.func (.func (clearF ps[j])) #[] #[]) ∧ w.cell? ⟨q, j * 4 + 1, none⟩ = some (.func (.func (mayF k ps[j]).1) #[] (mayF k ps[j]).2) ∧
   w.cell? ⟨q, j * 4 + 2, none⟩ = some (.func (.func (layF ps[j])) #[] #[]) ∧ w.cell? ⟨q, j * 4 + 3, none⟩ = some (.func (.func (takeF ps[j])) #[] #[]) := by
 obtain ⟨⟨k, h1, h2⟩, -⟩ := h; rcases h2 with ⟨rfl, rfl⟩ | ⟨q, h3, rfl, h4⟩
 · exact ⟨none, k, rfl, fun l hl => (h1 l hl).2, fun j hj => absurd hj (by simp)⟩
 · refine ⟨some ⟨q, 0, none⟩, k, rfl, fun l hl => (h1 l hl).2, fun j hj => ⟨q, rfl, h4.lt, ?_⟩⟩
   have c := fun i (hi : i < 4) => (h4.reads.1 (j * 4 + i)).trans (pcs_get k ps j i hj hi)
   rw [partCells_eq] at c; exact ⟨c 0 (by decide), c 1 (by decide), c 2 (by decide), c 3 (by decide)⟩
theorem parts_at' {A : Nat → Prop} {w : World} {a : Option Addr} {ps : List Part} (h : (partsR (.slice a ps.length ps.length) ps).p A w) : ∃ k, (∀ least, Part.number least ∈ ps → Box w k 2 [.int .i64 least]) ∧
 ∀ j (hj : j < ps.length), ∃ q, a = some ⟨q, 0, none⟩ ∧ q < w.heap.size ∧ w.cell? ⟨q, j * 4, none⟩ = some (.func (.func (clearF ps[j])) #[] #[]) ∧ w.cell? ⟨q, j * 4 + 1, none⟩ = some (.func (.func (mayF k ps[j]).1) #[] (mayF k ps[j]).2) ∧
   w.cell? ⟨q, j * 4 + 2, none⟩ = some (.func (.func (layF ps[j])) #[] #[]) ∧ w.cell? ⟨q, j * 4 + 3, none⟩ = some (.func (.func (takeF ps[j])) #[] #[]) := by
 obtain ⟨a', k, h1, h2, h3⟩ := parts_at h; cases h1
 exact ⟨k, h2, h3⟩
theorem parts_len {A : Nat → Prop} {w : World} {v : Value} {ps : List Part} (h : (partsR v ps).p A w) : ∃ a, v = .slice a ps.length ps.length := let ⟨a, _, h, _⟩ := parts_at h; ⟨a, h⟩
theorem partsOf_len (n : Int) : ((partsOf n).getD []).length ≤ 3 := by
 unfold partsOf; by_cases h1 : n = 1
 · rw [if_pos h1]; decide
 by_cases h2 : n = 2
 · rw [if_neg h1, if_pos h2]; decide
 by_cases h3 : n = 3
 · rw [if_neg h1, if_neg h2, if_pos h3]; decide
 rw [if_neg h1, if_neg h2, if_neg h3]; by_cases h4 : n = 4
 · rw [if_pos h4]; decide
 by_cases h5 : n = 5
 · rw [if_neg h4, if_pos h5]; decide
 by_cases h6 : n = 6
 · rw [if_neg h4, if_neg h5, if_pos h6]; decide
 rw [if_neg h4, if_neg h5, if_neg h6]; by_cases h7 : n = 7
 · rw [if_pos h7]; decide
 by_cases h8 : n = 8
 · rw [if_neg h7, if_pos h8]; decide
 by_cases h9 : n = 9
 · rw [if_neg h7, if_neg h8, if_pos h9]; decide
 rw [if_neg h7, if_neg h8, if_neg h9]; by_cases h10 : n = 10
 · rw [if_pos h10]; decide
 by_cases h11 : n = 11
 · rw [if_neg h10, if_pos h11]; decide
 rw [if_neg h10, if_neg h11]; by_cases h12 : n = 12
 · rw [if_pos h12]; decide
 · rw [if_neg h12]; decide
theorem foldl_take {α β : Type} (f : β → α → β) (b : β) (l : List α) (j : Nat) (h : j < l.length) : (l.take (j + 1)).foldl f b = f ((l.take j).foldl f b) l[j] := by
 rw [List.take_succ_eq_append_getElem h, List.foldl_append]; rfl
theorem partV_eq (k : Nat) (p : Part) : partV k p = .agg #[.func (.func (clearF p)) #[] #[], .func (.func (mayF k p).1) #[] (mayF k p).2, .func (.func (layF p)) #[] #[], .func (.func (takeF p)) #[] #[]] := by unfold partV; rw [partCells_eq]
theorem check1_any (W w : World) (hT : Tabs W) (hE : Ext W w) (ks k : Nat) (p : Part) (s : Sd) (hs : OkS s) (hb : Box w ks 37 s.cells) (hk : ∀ n, p = .number n → Box w k 2 [.int .i64 n]) :
 Calls Tryz.prog 151 #[partV k p, .pointer (some ⟨ks, 0, none⟩)] w fun e w' => e = .returned (.bool (!p.may s)) ∧ Ext w w' := by
 have HM := Hd (Mem.start0 w); have HE := Hd hE; have HK := Hd hk; have HB := Hd hb; have hen := may_enters k p; have HV := Hd (show s.v = .agg s.cells.toArray from rfl); rw [partV_eq]; clear hE hk hb; obtain ⟨f, cs, hfc⟩ : ∃ f cs, mayF k p = (f, cs) := ⟨_, _, rfl⟩; have HFC := Hd hfc; rw [hfc] at hen ⊢; dsimp only at hen ⊢; clear hfc; unfold Sd.cells at HB; go_enter Tryz.func151, Tryz.ntmps151
 have fM := HM.out.fa; have fMHB := (HB.out.ext HM.out.extTo).reads; have fLHB := (HB.out.ext HM.out.extTo).lt; go_wp2_with fail; all_goals clear fM fMHB fLHB
 refine nxt HM fun w1 M => ?_
 replace HM := M; clear M; have hm := may_any W w1 hT (HE.out.ext HM.out.extTo) k p s hs (fun n hn => (HK.out n hn).ext HM.out.extTo); rw [HFC.out] at hm; dsimp only at hm; unfold Sd.v Sd.cells at hm; clear hen; refine hm.mono ?_; clear hm; rintro e w2 ⟨rfl, hE2⟩; replace HM := Hd (HM.out.ext hE2); clear hE2; go_wp2_with fail; go_ret; exact ⟨rfl, HM.out.extTo⟩
theorem pindex_any (W w : World) (hT : Tabs W) (hE : Ext W w) (ks : Nat) (a : Option Addr) (ps : List Part) (s : Sd) (hs : OkS s) (hl : ps.length ≤ 3) {A : Nat → Prop} (hp : (partsR (.slice a ps.length ps.length) ps).p A w) (hb : Box w ks 37 s.cells) :
 Calls Tryz.prog 209 #[.slice a ps.length ps.length, .func (.func 151) #[] #[.pointer (some ⟨ks, 0, none⟩)]] w fun e w' => (∃ r : Int, e = .returned (.int .i64 r) ∧ decide (0 ≤ r) = !(ps.all fun p => p.may s)) ∧ Ext w w' := by
 have HE := Hd hE; have HP := Hd hp; have HB := Hd hb; have hc := enters_of (P := Tryz.prog) Tryz.func151 (by kernel_rfl) rfl; clear hE hp hb; go_enter Tryz.func209, Tryz.ntmps209
 go_wp2_with fail; go_loopw [8] (fun i wr => ∃ j : Nat, j ≤ ps.length ∧ i = .int .i64 j ∧ Hid (((ps.take j).all fun p => p.may s) = true) ∧ Hid (Mem NoB w wr [])) (fun i _ => ps.length - (intOf i).toNat)
 case atStart => exact ⟨0, Nat.zero_le _, rfl, Hd (by simp), Hd (Mem.start0 w)⟩
 case round =>
  obtain ⟨j, hj, rfl, HAL, HM⟩ := hrel; by_cases hlt : j < ps.length
  · have g1 : (j : Int) < ps.length := by omega
    have g2 : ¬ (j : Int) < 0 := by omega
    have he := HM.out.extTo; have hp2 := Res.keeps _ HP.out he (fun _ _ => noB _); obtain ⟨k, hnum, hat⟩ := parts_at' hp2; obtain ⟨q, rfl, hq, c0, c1, c2, c3⟩ := hat j hlt; have HSN := Hd (show ((ps.take (j + 1)).all fun p => p.may s) = (((ps.take j).all fun p => p.may s) && ps[j].may s) by rw [List.take_succ_eq_append_getElem hlt, List.all_append]; simp); have HIN := Hd (List.getElem_mem hlt); have HNU := Hd hnum; obtain ⟨p, hpj⟩ : ∃ p, ps[j] = p := ⟨_, rfl⟩; rw [hpj] at c0 c1 c2 c3 HSN HIN; clear hp2 hat hpj hnum he; go_wp2_with fail; clear c0 c1 c2 c3; rw [← partV_eq]; refine (check1_any W wr hT (HE.out.ext HM.out.extTo) ks k p s hs (HB.out.ext HM.out.extTo) (fun n hn => HNU.out n (by rw [← hn]; exact HIN.out))).mono ?_; rintro e w2 ⟨rfl, hE2⟩; replace HM := Hd (HM.out.ext hE2); clear hE2; cases hm : p.may s
    · go_wp2_with fail
      go_ret; refine ⟨⟨_, rfl, ?_⟩, HM.out.extTo⟩; rw [decide_eq_true (by omega)]; symm
      rw [Bool.not_eq_true', List.all_eq_false]; exact ⟨p, HIN.out, by rw [hm]; simp⟩
    · rw [hm, HAL.out] at HSN
      clear hm; go_wp2_with fail; go_roundw
      case rel => exact ⟨j + 1, by omega, by go_num, HSN, HM⟩
      case measure => simp [intOf]; omega
  · obtain rfl : j = ps.length := by omega
    rw [List.take_length] at HAL; go_wp2_with fail; go_ret; exact ⟨⟨-1, rfl, by rw [HAL.out]; rfl⟩, HM.out.extTo⟩
theorem pcontains_any (W w : World) (hT : Tabs W) (hE : Ext W w) (ks : Nat) (a : Option Addr) (ps : List Part) (s : Sd) (hs : OkS s) (hl : ps.length ≤ 3) {A : Nat → Prop} (hp : (partsR (.slice a ps.length ps.length) ps).p A w) (hb : Box w ks 37 s.cells) :
 Calls Tryz.prog 150 #[.slice a ps.length ps.length, .func (.func 151) #[] #[.pointer (some ⟨ks, 0, none⟩)]] w fun e w' => e = .returned (.bool (!(ps.all fun p => p.may s))) ∧ Ext w w' := by
 have HE := Hd hE; have HP := Hd hp; have HB := Hd hb; clear hE hp hb; go_enter Tryz.func150, Tryz.ntmps150
 go_wp2_with fail; refine (pindex_any W w hT HE.out ks a ps s hs hl HP.out HB.out).mono ?_; rintro e w2 ⟨⟨r, rfl, hr⟩, hE2⟩; have HE2 := Hd hE2; have HR := Hd hr; clear hE2 hr; go_wp2_with fail; go_ret; exact ⟨by rw [← HR.out]; rfl, HE2.out⟩
def chkI (s : Sd) : Int := if sdB s = true then 0 else 2
theorem check_any (W w : World) (hT : Tabs W) (hE : Ext W w) (s : Sd) (hs : OkS s) (hk : I64 s.kind) :
 Calls Tryz.prog 90 #[s.v] w fun e w' => e = .returned (.int .i64 (chkI s)) ∧ Ext w w' := by
 have HM := Hd (Mem.start0 w); have HE := Hd hE; have HS := Hd hs; have HK := Hd hk; have hmf : ∀ (fn : Fn) (first cap : Array Value) (w : World), (Instr.makeFunc fn first cap).run Tryz.prog w = .ok (.func fn first cap) w := fun _ _ _ _ => rfl
 have HV := Hd (show s.v = .agg s.cells.toArray from rfl); clear hE hs hk; unfold Sd.v Sd.cells; go_enter Tryz.func90, Tryz.ntmps90
 have fM := HM.out.fa; go_wp2_with fail; all_goals clear fM
 obtain ⟨ks, hks⟩ : ∃ k, w.heap.size = k := ⟨_, rfl⟩; refine nxt HM fun w1 M => ?_
 replace HM := M; clear M; rw [hks] at HM ⊢; clear hks; have fM := HM.out.fa; have hE0 : Keeps NoB w1 w1.drew := (Keeps.refl _ _).drew; refine rgE [(0, 1), (1, 2), (2, 0), (2, 3), (0, 4), (0, 5), (0, 6), (0, 7), (0, 8)] [2] [0, 3] [] ?_; simp only [planL, nL]; refine pR rfl (fun W => by go_simp <;> with_reducible rfl) ?_; simp only [nP]; refine pL rfl (fun W => by go_simp <;> with_reducible rfl) ?_; simp only [nP]; refine plan_does rfl (fun K hK => ?_); go_wp2_with fail; refine (kinds_any _).mono ?_; rintro e w2 ⟨m, rfl, hU⟩; obtain ⟨F2, u1, u2, u3⟩ := hU; have hE2 := hE0.ext u2; obtain ⟨v, hlk, hpv⟩ := kinds_look u1 s.kind HK.out true; replace HM := Hd (HM.out.new (r := partsR v ((partsOf s.kind).getD [])) (G := F2) hE2 hpv (fun k hk => (u3 k hk).elim (fun h => (noB _ h).elim) id)); simp only [if_true] at hlk; clear u1 u2 u3 hpv; clear F2; refine hK _ _ ⟨ClsE.of (by assumption), ?_⟩; clear hK K; try simp only [nP]
 refine plan_does rfl (fun K hK => ?_); go_wp2_with fail; refine ⟨ClsE.of (by repeat (first | assumption | exact Keeps.refl _ _ | refine Keeps.alloc ?_ _ | refine Keeps.setOne ?_ _ _ | refine Keeps.setCell ?_ _ _ (.inl (by first | rfl | exact .inl rfl | exact .inr rfl | omega)) | refine Keeps.drew ?_)), ?_⟩; try simp only [nP]
 refine pM _ rfl rfl ?_; simp only [nP, nE]; iterate 2 (refine pR rfl (fun W => by go_simp <;> with_reducible rfl) ?_; simp only [nP])
 iterate 2 (refine pA _ rfl rfl ?_; simp only [nP, nE])
 refine plan_nil ?_; simp only [tailL, List.filterMap_nil]; clear fM; obtain ⟨ps, hps⟩ : ∃ ps, (partsOf s.kind).getD [] = ps := ⟨_, rfl⟩; have hpl := partsOf_len s.kind; rw [hps] at HM hpl; have HPS := Hd hps; obtain ⟨Ahp, hp⟩ := HM.out.get (r := partsR v ps) pk; obtain ⟨a, rfl⟩ := parts_len hp; clear hE0 hE2 hp hlk hps; have fM := HM.out.fa; go_wp2_with fail; all_goals clear fM
 obtain ⟨kr, hkr⟩ : ∃ k, w2.heap.size = k := ⟨_, rfl⟩; refine nxt HM fun w3 M => ?_
 replace HM := M; clear M; rw [hkr] at HM ⊢; clear hkr; have hs0 : Mem NoB w w3 [cellsR kr 37 ((ps.take 0).foldl (fun x p => p.clear x) s).cells, cellsR ks 37 s.cells, partsR (.slice a ps.length ps.length) ps] := Mem.sub HM.out (L' := [cellsR kr 37 s.cells, cellsR ks 37 s.cells, partsR (.slice a ps.length ps.length) ps]) sbI; replace HM := Hd hs0; clear hs0; go_loopw [18] (fun i wr => ∃ j : Nat, j ≤ ps.length ∧ i = .int .i64 j ∧ Hid (Mem NoB w wr [cellsR kr 37 ((ps.take j).foldl (fun x p => p.clear x) s).cells, cellsR ks 37 s.cells, partsR (.slice a ps.length ps.length) ps])) (fun i _ => ps.length - (intOf i).toNat)
 case atStart => exact ⟨0, Nat.zero_le _, rfl, HM⟩
 case round =>
  clear HM; obtain ⟨j, hj, rfl, HM⟩ := hrel; by_cases hlt : j < ps.length
  · have g1 : (j : Int) < ps.length := by omega
    have g2 : ¬ (j : Int) < 0 := by omega
    obtain ⟨Ahp, hp⟩ := HM.out.get (r := partsR (.slice a ps.length ps.length) ps) pk; obtain ⟨k, -, hat⟩ := parts_at' hp; obtain ⟨q, rfl, hq, c0, c1, c2, c3⟩ := hat j hlt; have HF := Hd (foldl_take (fun x (p : Part) => p.clear x) s ps j hlt); obtain ⟨p, hpj⟩ : ∃ p, ps[j] = p := ⟨_, rfl⟩; rw [hpj] at c0 c1 c2 c3 HF; obtain ⟨x, hx⟩ : ∃ x, (ps.take j).foldl (fun x (p : Part) => p.clear x) s = x := ⟨_, rfl⟩; rw [hx] at HF HM; have hen := clear_enters p; clear hp hat hpj hx; have fM := HM.out.fa; go_wp2_with fail; all_goals clear fM
    refine nxt HM fun w4 M => ?_
    replace HM := M; clear M; obtain ⟨C, hC, hS⟩ := (HM.out.pick (r := cellsR kr 37 x.cells) pk).step; refine (clear_any w4 kr p x hC).mono ?_; rintro e w5 ⟨rfl, hU⟩; replace HM := Hd (hS _ _ hU); clear hU hS hC C hen c0 c1 c2 c3; go_wp2_with fail; go_roundw
    case rel =>
     refine ⟨j + 1, by omega, by go_num, Hd ?_⟩; rw [HF.out]; exact Mem.sub HM.out sbI
    case measure => simp [intOf]; omega
  · obtain rfl : j = ps.length := by omega
    rw [List.take_length] at HM; obtain ⟨x, hx⟩ : ∃ x, ps.foldl (fun x (p : Part) => p.clear x) s = x := ⟨_, rfl⟩; rw [hx] at HM; have HX := Hd hx; clear hx; cases ho : partsOf s.kind with
    | none =>
      have hq : chkI s = 2 := by unfold chkI sdB; rw [ho]; rfl
      have HQ := Hd hq; simp only [Option.isSome_none]; clear ho hq; have fM := HM.out.fa; go_wp2_with fail; all_goals clear fM
      go_ret; rw [HQ.out]; exact ⟨rfl, HM.out.extTo⟩
    | some ps' =>
      obtain rfl : ps' = ps := by have := HPS.out; rw [ho] at this; exact this
      have hsb : sdB s = (decide (x = Sd.of s.kind) && ps'.all fun p => p.may s) := by unfold sdB; rw [ho]; dsimp only; rw [HX.out]
      have HSB := Hd hsb; simp only [Option.isSome_some]; have HNE := Hd (show ∀ W, (binOp .neq 37 (.agg #[.int .i64 x.kind, .int .i64 x.member, .int .i64 x.number, .int .i64 x.index, .bool x.is, .string (bs x.text), .string (bs x.token), .int .i64 x.e.kind, .int .i64 x.e.member, .int .i64 x.e.number, .string (bs x.e.text)]) (.agg #[.int .i64 s.kind, .int .i64 0, .int .i64 0, .int .i64 0, .bool false, .string ⟨#[]⟩, .string ⟨#[]⟩, .int .i64 0, .int .i64 0, .int .i64 0, .string ⟨#[]⟩])).run Tryz.prog W = .ok (.bool (!decide (x = Sd.of s.kind))) W from fun W => ne_sd x (Sd.of s.kind) W); clear hsb ho; by_cases hx : x = Sd.of s.kind
      case neg =>
       have HQ := Hd (show chkI s = 2 by unfold chkI; rw [HSB.out, decide_eq_false hx]; rfl); have hne := HNE.out; rw [decide_eq_false hx, Bool.not_false] at hne; clear hx; have fM := HM.out.fa; go_wp2_with fail; all_goals clear fM
       go_ret; rw [HQ.out]; exact ⟨rfl, HM.out.extTo⟩
      have HXE := Hd hx; have hne := HNE.out; rw [decide_eq_true hx, Bool.not_true] at hne; clear hx; have fM := HM.out.fa; go_wp2_with fail; all_goals clear fM
      clear hne; obtain ⟨Ahp, hp⟩ := HM.out.get (r := partsR (.slice a ps'.length ps'.length) ps') pk; obtain ⟨Ahb, hb⟩ := HM.out.get (r := cellsR ks 37 s.cells) pk; refine (pcontains_any W wr hT (HE.out.ext HM.out.extTo) ks a ps' s HS.out hpl hp hb.2).mono ?_; rintro e w2 ⟨rfl, hE2⟩; replace HM := Hd (HM.out.ext hE2); clear hE2 hp hb; cases hal : ps'.all fun p => p.may s
      · have HQ := Hd (show chkI s = 2 by unfold chkI; rw [HSB.out, hal, Bool.and_false]; rfl)
        clear hal; simp only [Bool.not_false]; go_wp2_with fail; go_ret; rw [HQ.out]; exact ⟨rfl, HM.out.extTo⟩
      · have HQ := Hd (show chkI s = 0 by unfold chkI; rw [HSB.out, hal, decide_eq_true HXE.out]; rfl)
        clear hal; simp only [Bool.not_true]; go_wp2_with fail; go_ret; rw [HQ.out]; exact ⟨rfl, HM.out.extTo⟩
section
open Go.RowKit Go.ChangeShapes Go.WideShapes
theorem cellsI : Tryz.prog.cellsOf 3 = 1 := by kernel_rfl
theorem cellsI64 : Tryz.prog.cellsOf 2 = 1 := by kernel_rfl
theorem cellsS : Tryz.prog.cellsOf 9 = 1 := by kernel_rfl
theorem cellsBo : Tryz.prog.cellsOf 4 = 1 := by kernel_rfl
theorem cellsEK : Tryz.prog.cellsOf 33 = 1 := by kernel_rfl
theorem cellsSK : Tryz.prog.cellsOf 32 = 1 := by kernel_rfl
theorem cellsEn : Tryz.prog.cellsOf 35 = 4 := by kernel_rfl
theorem cellsSd : Tryz.prog.cellsOf 37 = 11 := by kernel_rfl
theorem i64_of {n : Int} (h : (Lit.int .i64 n).wf = true) : I64 n := by
 unfold I64; simp [Lit.wf, IntKind.min, IntKind.max, IntKind.signed, IntKind.bits] at h; omega
theorem list4 {cs : List Value} (h : cs.length = 4) : ∃ a b c d, cs = [a, b, c, d] := by
 match cs, h with
 | [a, b, c, d], _ => exact ⟨a, b, c, d, rfl⟩
theorem list11 {cs : List Value} (h : cs.length = 11) : ∃ a b c d e f g i j k l, cs = [a, b, c, d, e, f, g, i, j, k, l] := by
 match cs, h with
 | [a, b, c, d, e, f, g, i, j, k, l], _ => exact ⟨a, b, c, d, e, f, g, i, j, k, l, rfl⟩
section
variable {H : Type} {enc : TypeId × Value → H} {w : World}
theorem rd_en : Rd enc Tryz.prog w 35 fun cs (e : En) => cs = e.cells ∧ I64 e.kind ∧ e.text.length ≤ 9223372036854775807 := fun fuel cs x h => by
 obtain ⟨hl, hf⟩ := rd_field Tryz.underlying35 h; rw [cellsEn] at hl; obtain ⟨c0, c1, c2, c3, rfl⟩ := list4 hl; obtain ⟨k0, h0, g0⟩ := hf 0 _ 0 1 rfl rfl cellsEK (rd_int Tryz.underlying33); obtain ⟨k1, h1, g1⟩ := hf 1 _ 1 1 rfl rfl cellsI (rd_int Tryz.underlying3); obtain ⟨k2, h2, g2⟩ := hf 2 _ 2 1 rfl rfl cellsI64 (rd_int Tryz.underlying2); obtain ⟨l, h3, g3⟩ := hf 3 _ 3 1 rfl rfl cellsS (rd_string Tryz.underlying9); simp at h0 h1 h2 h3; exact ⟨⟨k0, k1, k2, l⟩, by rw [h0, h1, h2, h3]; rfl, i64_of g0, by omega⟩
theorem rd_sd : Rd enc Tryz.prog w 37 fun cs (x : Sd) => cs = x.cells ∧ OkS x ∧ I64 x.kind := fun fuel cs x h => by
 obtain ⟨hl, hf⟩ := rd_field Tryz.underlying37 h; rw [cellsSd] at hl; obtain ⟨c0, c1, c2, c3, c4, c5, c6, c7, c8, c9, c10, rfl⟩ := list11 hl; obtain ⟨k0, h0, g0⟩ := hf 0 _ 0 1 rfl rfl cellsSK (rd_int Tryz.underlying32); obtain ⟨k1, h1, g1⟩ := hf 1 _ 1 1 rfl rfl cellsI (rd_int Tryz.underlying3); obtain ⟨k2, h2, g2⟩ := hf 2 _ 2 1 rfl rfl cellsI64 (rd_int Tryz.underlying2); obtain ⟨k3, h3, g3⟩ := hf 3 _ 3 1 rfl rfl cellsI64 (rd_int Tryz.underlying2); obtain ⟨b4, h4⟩ := hf 4 _ 4 1 rfl rfl cellsBo (rd_bool Tryz.underlying4); obtain ⟨l5, h5, g5⟩ := hf 5 _ 5 1 rfl rfl cellsS (rd_string Tryz.underlying9); obtain ⟨l6, h6, g6⟩ := hf 6 _ 6 1 rfl rfl cellsS (rd_string Tryz.underlying9); obtain ⟨e, h7, g7, g8⟩ := hf 7 _ 7 4 rfl rfl cellsEn rd_en; simp [En.cells] at h0 h1 h2 h3 h4 h5 h6 h7; obtain ⟨h7, h8, h9, h10⟩ := h7; exact ⟨⟨k0, k1, k2, k3, b4, l5, l6, e⟩, by rw [h0, h1, h2, h3, h4, h5, h6, h7, h8, h9, h10], ⟨g7, by dsimp only; omega, by dsimp only; omega, g8⟩, i64_of g0⟩
end
end
end Go.Proofs.YtoadjbgpfihoiaaGreatDoor
