/- Texts SB, SB2, one behind the other. Conditions: as each says. -/
import Derived.Test.YtoadjbgpfihoiaaGreatDoorTeZG
set_option linter.unusedVariables false
set_option linter.unusedSimpArgs false
set_option maxHeartbeats 8000000
set_option maxRecDepth 100000
namespace Go.Proofs.YtoadjbgpfihoiaaGreatDoor
open Go.RowKit
theorem sclose1 (w : World) (k3 : Nat) (why : Int) (B3 : Box w k3 2 [.int .i64 why]) :
 Calls Tryz.prog 101 #[.pointer (some ⟨k3, 0, none⟩)] w fun e w' => e = .returned (.bool (decide (0 ≤ why ∧ why ≤ 2147483647))) ∧ Ext w w' := by
 replace B3 := Hd B3; obtain ⟨cB3, zB3⟩ := B3.out.reads; have lB3 := B3.out.lt; go_enter Tryz.func101, Tryz.ntmps101
 go_wp2_with fail; refine (sin_i64 _ _ _ _).mono ?_; rintro e w7 ⟨rfl, rfl⟩; go_wp2_with fail; go_ret; exact ⟨by rw [Bool.decide_and]; rfl, Keeps.refl _ _⟩
theorem okS_bye (n : Int) : OkS (byeS n) := ⟨by show I64 0; unfold I64; decide, by show ([] : List UInt8).length ≤ _; simp, by show ([] : List UInt8).length ≤ _; simp, by show ([] : List UInt8).length ≤ _; simp⟩
theorem tabs_mem {F : Nat → Prop} {w0 w : World} {L : List Res} (hX : TabX F w0) (h : Mem F w0 w L) : Tabs w := hX.1.keeps h.keepsTo hX.2.1 hX.2.2
theorem sclose2 {F : Nat → Prop} {w0 : World} (w : World) (hX : TabX F w0) (sb k2 k3 rb : Nat) (bv : Value) (s : Ss) (why : Int) (hw : 0 ≤ why ∧ why ≤ 2147483647)
 (h : Mem F w0 w [cellsR k3 2 [.int .i64 why], cellsR k2 64 [.pointer (some ⟨sb, 0, none⟩)], cellsR sb 99 (sesC rb bv s), ringR rb s.ring, byeR bv s.bye]) :
 Calls Tryz.prog 102 #[.pointer (some ⟨k2, 0, none⟩), .pointer (some ⟨k3, 0, none⟩)] w fun e w' => e = .returned (.tuple #[]) ∧ Upd F w0 w' (sesR sb { s with closed := true, live := false, ring := { s.ring with items := [] }, bye := some (rawS (byeS why)) }) := by
 have HM := Hd h; have HX := Hd hX; have HSD := Hd (sd_bye why hw); clear h hX; go_enter Tryz.func102, Tryz.ntmps102
 have fM := HM.out.fa; go_wp2_with fail; have hE0 : Keeps (fun k => k = sb) w w.drew := (Keeps.refl _ _).drew; refine rgK (fun k => k = sb) [(3, 0), (1, 1), (0, 2), (0, 3), (0, 4), (2, 5), (0, 6), (0, 7), (0, 8)] [1] [5, 9] [9] ?_; simp only [planL, nL]; refine pX rfl (by go_simp <;> with_reducible rfl) ?_; simp only [nP]; refine pK rfl (fun W => by go_simp <;> with_reducible rfl) ?_; simp only [nP]; iterate 3 (refine pR rfl (fun W => by go_simp <;> with_reducible rfl) ?_; simp only [nP])
 refine plan_does rfl (fun K hK => ?_); go_wp2_with fail; refine ⟨ClsK.of (by repeat (first | assumption | exact Keeps.refl _ _ | refine Keeps.alloc ?_ _ | refine Keeps.setOne ?_ _ _ | refine Keeps.setCell ?_ _ _ (.inl (by first | rfl | exact .inl rfl | exact .inr rfl | omega)) | refine Keeps.drew ?_)), ?_⟩; try simp only [nP]
 iterate 3 (refine pR rfl (fun W => by go_simp <;> with_reducible rfl) ?_; simp only [nP])
 refine plan_nil ?_; simp only [tailL, List.filterMap_cons, List.filterMap_nil, nL]; change wpList _ _ _ (_ :: []) _ _; go_wp2_with fail; clear fM; refine nxt HM fun w1 M => ?_
 replace HM := M; clear M; obtain ⟨C, hC, hS⟩ := (HM.out.pick (r := ringR rb s.ring) pk).step; refine (clear_r w1 rb s.ring.most s.ring.lost s.ring.items hC).mono ?_; rintro e w2 ⟨rfl, hU⟩; replace HM := Hd (hS _ _ hU); clear hC hS hU; clear C; have fM := HM.out.fa; go_wp2_with fail; all_goals clear fM
 have fM := HM.out.fa; have hE0 : Keeps (fun k => k = sb) w2 w2.drew := (Keeps.refl _ _).drew; refine rgK (fun k => k = sb) [(1, 0), (3, 1), (0, 2), (2, 3), (0, 4), (0, 5), (0, 6), (0, 7), (0, 8)] [0] [3, 9] [9] ?_; simp only [planL, nL]; refine pK rfl (fun W => by go_simp <;> with_reducible rfl) ?_; simp only [nP]; refine pX rfl (by go_simp <;> with_reducible rfl) ?_; simp only [nP]; refine pR rfl (fun W => by go_simp <;> with_reducible rfl) ?_; simp only [nP]; refine plan_does rfl (fun K hK => ?_); go_wp2_with fail; refine (raw_ok w2.drew w2.drew (tabs_mem HX.out HM.out.drew) (Keeps.refl _ _) (byeS why) (okS_bye why) HSD.out).mono ?_; rintro e w3 ⟨v, rfl, hU⟩; have hE3 := hE0.ext hU.keepsTo; replace HM := Hd (HM.out.drew.newU hU); obtain ⟨a3, c3, rfl⟩ := HM.out.fact fun A h => bytR.len h
 clear hU; clear fM; have fM := HM.out.fa; refine hK _ _ ⟨ClsK.of (by assumption), ?_⟩; clear hK K; try simp only [nP]
 refine pM _ rfl rfl ?_; simp only [nP, nE]; iterate 4 (refine pR rfl (fun W => by go_simp <;> with_reducible rfl) ?_; simp only [nP])
 refine plan_nil ?_; simp only [tailL, List.filterMap_cons, List.filterMap_nil, nL]; change wpList _ _ _ (_ :: []) _ _; go_wp2_with fail; clear fM; refine nxt HM fun w4 M => ?_
 replace HM := M; clear M; go_end0
 have h1 := (HM.out.pick (r := bytR (.slice a3 (frameL (bodyL (byeS why))).length c3) (frameL (bodyL (byeS why)))) pk).byeSome (frame_pos _); exact ⟨rfl, Mem.sesUpd (rb := rb) (bv := .slice a3 (frameL (bodyL (byeS why))).length c3) (s := { s with closed := true, live := false, ring := { s.ring with items := [] }, bye := some (rawS (byeS why)) }) (Mem.sub h1 (by repeat first | exact Sub.nil | refine Sub.cons (by with_reducible repeat first | exact ph | apply pt) ?_))⟩
theorem close_does (s : Ss) (why : Int) : (s.close why).2 = doesI false (decide (0 ≤ why ∧ why ≤ 2147483647)) s.closed [] ∧ (doesB false (decide (0 ≤ why ∧ why ≤ 2147483647)) s.closed [] = true → (s.close why).1 = { s with closed := true, live := false, ring := { s.ring with items := [] }, bye := some (rawS (byeS why)) }) ∧ (doesB false (decide (0 ≤ why ∧ why ≤ 2147483647)) s.closed [] = false → (s.close why).1 = s) := by
 unfold Ss.close doesI doesB; by_cases h : 0 ≤ why ∧ why ≤ 2147483647
 · rw [if_neg (fun h' => h' h), decide_eq_true h]
   cases s.closed <;> simp [firstF, noneF]
 · rw [if_pos h, decide_eq_false h]
   simp
theorem doesB_may {nb mb cb : Bool} {x : List (Flt × Bool)} (h : doesB nb mb cb x = true) : mb = true := by
 unfold doesB at h; cases mb with
 | true => rfl
 | false => simp at h
theorem close_any {A : Nat → Prop} (w : World) (sb : Nat) (s : Ss) (why : Int) (h : (sesR sb s).p A w) (hX : TabX A w) :
 Calls Tryz.prog 38 #[.pointer (some ⟨sb, 0, none⟩), .int .i64 why] w fun e w' => e = .returned (.int .i64 (s.close why).2) ∧ Upd A w w' (sesR sb (s.close why).1) := by
 have HX := Hd hX; clear hX; obtain ⟨rb, bv, hm⟩ := (Mem.start h).sesOpen; have HM := Hd hm; clear hm h; go_enter Tryz.func38, Tryz.ntmps38
 have fM := HM.out.fa; go_wp2_with fail; all_goals clear fM
 obtain ⟨k2, hk2⟩ : ∃ k, w.heap.size = k := ⟨_, rfl⟩; obtain ⟨k3, hk3⟩ : ∃ k, w.heap.size + 1 = k := ⟨_, rfl⟩; refine nxt HM fun w1 M => ?_
 replace HM := M; clear M; rw [hk3, hk2] at HM ⊢; clear hk2 hk3; obtain ⟨_, hb3⟩ := HM.out.get (r := cellsR k3 2 [.int .i64 why]) pk; obtain ⟨_, hbs⟩ := HM.out.get (r := cellsR sb 99 (sesC rb bv s)) pk; have m1 : TellsF w1 ⟨101, #[], #[.pointer (some ⟨k3, 0, none⟩)], 0⟩ (decide (0 ≤ why ∧ why ≤ 2147483647)) := ⟨enters_of Tryz.func101 (by kernel_rfl) rfl, fun w2 h2 => sclose1 w2 k3 why (hb3.2.ext h2)⟩; have m2 := fun (hb : doesB false (decide (0 ≤ why ∧ why ≤ 2147483647)) s.closed [] = true) w2 (h2 : Ext w1 w2) => sclose2 w2 HX.out sb k2 k3 rb bv s why (of_decide_eq_true (doesB_may hb)) (HM.out.ext h2)
 obtain ⟨p1, p2, p3⟩ := close_does s why; have hd := does_any (Q := fun w' => Upd A w w' (sesR sb ({ s with closed := true, live := false, ring := { s.ring with items := [] }, bye := some (rawS (byeS why)) }))) w1 (some ⟨sb, 0, none⟩) false (decide (0 ≤ why ∧ why ≤ 2147483647)) s.closed 101 102 #[] #[.pointer (some ⟨k3, 0, none⟩)] #[] #[.pointer (some ⟨k2, 0, none⟩), .pointer (some ⟨k3, 0, none⟩)] (.slice none 0 0) [] (by simp) (fun w2 h2 => snone_ses (hbs.2.ext h2)) (fun _ => m1) (fun _ => ⟨sb, rfl, hbs.2.reads.1 8⟩) (.inl ⟨rfl, rfl⟩) (enters_of Tryz.func102 (by kernel_rfl) rfl) (fun hb => m2 hb); clear m1 m2; refine hd.mono ?_; clear hd; rintro e w2 ⟨rfl, h1, h2⟩
 have key : Upd A w w2 (sesR sb (s.close why).1) := by
  cases hb : doesB false (decide (0 ≤ why ∧ why ≤ 2147483647)) s.closed [] with
  | true => rw [p2 hb]; exact h1 hb
  | false => rw [p3 hb]; exact Mem.sesUpd (Mem.sub (HM.out.ext (h2 hb)) (by repeat first | exact Sub.nil | refine Sub.cons (by with_reducible repeat first | exact ph | apply pt) ?_))
 have HK := Hd key; rw [← p1]; clear h1 h2 p1 p2 p3 key hbs; clear hb3; go_wp2_with fail; go_ret; exact ⟨rfl, HK.out⟩
theorem byeR.form {A : Nat → Prop} {w : World} {v : Value} {o : Option (List UInt8)} (h : (byeR v o).p A w) : (o = none ∧ v = .slice none 0 0) ∨ ∃ l p c, o = some l ∧ v = .slice (some p) l.length c := by
 rcases h with ⟨h1, h2, -⟩ | ⟨l, h1, h2, h3⟩
 · exact .inl ⟨h1, h2⟩
 · refine .inr ⟨l, ?_⟩
   obtain ⟨g, o, cap, hv, -⟩ := Win.form h3.2 (List.length_pos_iff.2 h2); exact ⟨_, _, h1, hv⟩
theorem Ss.queued_some {s : Ss} {l : List UInt8} (h : s.bye = some l) : s.queued = 1 := by unfold Ss.queued; rw [h]; rfl
theorem Ss.queued_none {s : Ss} (h : s.bye = none) : s.queued = ((mains s.ring.items : Nat) : Int) + (sides s.ring.items : Nat) := by
 unfold Ss.queued; rw [h]
 have : ∀ l : List It, ((l.length : Nat) : Int) = (mains l : Nat) + (sides l : Nat) := by
  intro l; induction l with
  | nil => rfl
  | cons x l ih =>
    unfold mains sides at ih ⊢; cases hs : x.side <;> simp [hs] <;> omega
 exact this _
theorem ses_parts {A : Nat → Prop} {w : World} {sb : Nat} {s : Ss} (h : (sesR sb s).p A w) : ∃ rb bv A1 A2, Box w sb 99 (sesC rb bv s) ∧ (ringR rb s.ring).p A1 w ∧ (byeR bv s.bye).p A2 w ∧ (∀ k, A1 k → A k) ∧ (∀ k, A2 k → A k) := by
 obtain ⟨⟨rb, bv⟩, C1, D1, h1, ⟨C2, D2, h2, ⟨C3, D3, h3, -, -, h6⟩, -, h5⟩, -, h4⟩ := h; exact ⟨rb, bv, C2, C3, h1.2, h2, h3, fun k hk => (h4 k).2 (.inr ((h5 k).2 (.inl hk))), fun k hk => (h4 k).2 (.inr ((h5 k).2 (.inr ((h6 k).2 (.inl hk)))))⟩
theorem state_any {A : Nat → Prop} (w : World) (sb : Nat) (s : Ss) (h : (sesR sb s).p A w) (hi : ∀ x ∈ s.ring.items, x.bytes.length ≤ 1000000) (hl : s.ring.items.length ≤ 1000) :
 Calls Tryz.prog 39 #[.pointer (some ⟨sb, 0, none⟩)] w fun e w' => e = .returned (.agg s.state.toArray) ∧ Ext w w' := by
 obtain ⟨rb, bv, A1, A2, hb, hr, hy, -, -⟩ := ses_parts h; have HM := Hd (Mem.start0 w); have HBS := Hd hb; have HR := Hd hr; have HI := Hd hi; have hm1 := mains_le s.ring.items; have hm2 := sides_le s.ring.items; have hq1 := eq_noneU; have hq2 := eq_sliceU; rcases byeR.form hy with ⟨h1, rfl⟩ | ⟨l, p, c, h1, rfl⟩
 · have HQ := Hd (Ss.queued_none h1)
   clear h hb hr hi hy h1; go_enter Tryz.func39, Tryz.ntmps39
   have fM := HM.out.fa; have fMHBS := (HBS.out.ext HM.out.extTo).reads; have fLHBS := (HBS.out.ext HM.out.extTo).lt; go_wp2_with fail; all_goals clear fM fMHBS fLHBS
   refine nxt HM fun w1 M => ?_
   replace HM := M; clear M; refine cret (snone_ses (HBS.out.ext HM.out.extTo)) ?_; have fM := HM.out.fa; have fMHBS := (HBS.out.ext HM.out.extTo).reads; have fLHBS := (HBS.out.ext HM.out.extTo).lt; go_wp2_with fail; all_goals clear fM fMHBS fLHBS
   refine nxt HM fun w2 M => ?_
   replace HM := M; clear M; refine (len_r w2 rb s.ring (Res.keeps _ HR.out HM.out.extTo (fun _ _ => noB _)) HI.out).mono ?_; rintro e w3 ⟨rfl, hE⟩; replace HM := Hd (HM.out.ext hE); clear hE; have fM := HM.out.fa; have fMHBS := (HBS.out.ext HM.out.extTo).reads; have fLHBS := (HBS.out.ext HM.out.extTo).lt; go_wp2_with fail; all_goals clear fM fMHBS fLHBS
   refine nxt HM fun w4 M => ?_
   replace HM := M; clear M; refine bodyPost_ret (results_c rfl _ rfl (loadVar_wide 68 HM.out (by with_reducible repeat first | exact ph | apply pt) Tryz.underlying68 rfl (by kernel_rfl))) rfl ?_; exact ⟨by simp [HQ.out], HM.out.extTo⟩
 · have HQ := Hd (Ss.queued_some h1)
   clear h hb hr hi hy h1; go_enter Tryz.func39, Tryz.ntmps39
   have fM := HM.out.fa; have fMHBS := (HBS.out.ext HM.out.extTo).reads; have fLHBS := (HBS.out.ext HM.out.extTo).lt; go_wp2_with fail; all_goals clear fM fMHBS fLHBS
   refine nxt HM fun w1 M => ?_
   replace HM := M; clear M; refine cret (snone_ses (HBS.out.ext HM.out.extTo)) ?_; have fM := HM.out.fa; have fMHBS := (HBS.out.ext HM.out.extTo).reads; have fLHBS := (HBS.out.ext HM.out.extTo).lt; go_wp2_with fail; all_goals clear fM fMHBS fLHBS
   refine nxt HM fun w2 M => ?_
   replace HM := M; clear M; refine (len_r w2 rb s.ring (Res.keeps _ HR.out HM.out.extTo (fun _ _ => noB _)) HI.out).mono ?_; rintro e w3 ⟨rfl, hE⟩; replace HM := Hd (HM.out.ext hE); clear hE; have fM := HM.out.fa; have fMHBS := (HBS.out.ext HM.out.extTo).reads; have fLHBS := (HBS.out.ext HM.out.extTo).lt; go_wp2_with fail; all_goals clear fM fMHBS fLHBS
   refine nxt HM fun w4 M => ?_
   replace HM := M; clear M; refine bodyPost_ret (results_c rfl _ rfl (loadVar_wide 68 HM.out (by with_reducible repeat first | exact ph | apply pt) Tryz.underlying68 rfl (by kernel_rfl))) rfl ?_; exact ⟨by simp [HQ.out], HM.out.extTo⟩
def qSB20 : List (Nat × Nat) := [(0, 0), (2, 1), (0, 2), (0, 3), (0, 4), (0, 5), (0, 6), (0, 7), (1, 8), (0, 9), (0, 10), (0, 11), (0, 12), (0, 13), (0, 14), (0, 15), (0, 16), (1, 17), (0, 18), (0, 19), (0, 20), (0, 21), (0, 22), (0, 23), (0, 24), (0, 25), (1, 26), (0, 27), (0, 28), (0, 29), (0, 30), (1, 31), (0, 32), (0, 33), (0, 34)]
theorem silent_any {A : Nat → Prop} (w : World) (sb : Nat) (s : Ss) (now : Int) (h : (sesR sb s).p A w) (hh : 0 ≤ s.heard) (hn : I64 now) :
 Calls Tryz.prog 27 #[.pointer (some ⟨sb, 0, none⟩), .int .i64 now] w fun e w' => e = .returned (.bool (s.silent now)) ∧ Ext w w' := by
 obtain ⟨rb, bv, A1, A2, hb, hr, hy, -, -⟩ := ses_parts h; have HM := Hd (Mem.start0 w); have HBS := Hd hb; have HI := Hd hn; clear h hb hr hy hn; unfold Ss.silent; cases hc : s.closed with
 | true =>
   unfold sesC at HBS; rw [hc] at HBS; go_enter Tryz.func27, Tryz.ntmps27
   go_wp2_with fail; have fM := HM.out.fa; have fMHBS := (HBS.out.ext HM.out.extTo).reads; have fLHBS := (HBS.out.ext HM.out.extTo).lt; have hE0 : Keeps NoB w w.drew := (Keeps.refl _ _).drew; refine rgE qSB20 [8, 17, 26, 31] [1] [] ?_ (hp := (plan3 [0, 1, 3, 7, 15, 31, 63, 127, 255, 511, 1023, 2047, 4095, 4095, 12287, 28671, 61439, 126975, 262143, 524287, 1048575, 2097151, 2097151, 6291455, 14680063, 31457279, 65011711, 134217727, 2097151, 270532607, 807403519, 1881145343, 4294967295, 8589934591, 17179869183] (by kernel_rfl) rfl (by kernel_rfl))); simp only [qSB20, planL, nL]; refine pM _ rfl rfl ?_; simp only [nP, nE]; refine plan_does rfl (fun K hK => ?_); go_wp2_with fail; refine cret (snone_no _ sb _ ((HBS.out.ext hE0).reads.1 0)) ?_; have hE2 := hE0; refine hK _ _ ⟨ClsE.of (by assumption), ?_⟩; clear hK K; try simp only [nP]
   iterate 3 (first | (refine pM _ rfl rfl ?_; simp only [nP, nE]) | (refine pR (by rfl) (fun W => by go_simp <;> with_reducible rfl) ?_; simp only [nP]))
   iterate 3 ((refine pR rfl (fun W => by go_simp <;> with_reducible rfl) ?_; simp only [nP]))
   iterate 4 (first | (refine pM _ rfl rfl ?_; simp only [nP, nE]) | (refine pR (by rfl) (fun W => by go_simp <;> with_reducible rfl) ?_; simp only [nP]) | (refine pL (by rfl) (fun W => by go_simp <;> with_reducible rfl) ?_; simp only [nP]))
   iterate 2 ((refine plan_skip rfl ?_; simp only [nP]))
   iterate 3 ((refine plan_skip rfl ?_; simp only [nP]))
   iterate 4 (first | (refine plan_skip rfl ?_; simp only [nP]) | (refine pM _ rfl rfl ?_; simp only [nP, nE]) | (refine pR (by rfl) (fun W => by go_simp <;> with_reducible rfl) ?_; simp only [nP]))
   iterate 2 ((refine plan_skip rfl ?_; simp only [nP]))
   iterate 3 ((refine plan_skip rfl ?_; simp only [nP]))
   iterate 3 (refine plan_skip rfl ?_; simp only [nP])
   iterate 2 ((refine plan_skip rfl ?_; simp only [nP]))
   iterate 4 (first | (refine plan_skip rfl ?_; simp only [nP]) | (refine pA _ rfl rfl ?_; simp only [nP, nE]) | (refine pR (by rfl) (fun W => by go_simp <;> with_reducible rfl) ?_; simp only [nP]))
   refine plan_nil ?_; simp only [tailL, List.filterMap_nil]; go_wp2_with fail; clear fM fMHBS fLHBS; go_ret; exact ⟨rfl, Ext.drew0 w⟩
 | false =>
   unfold sesC at HBS; rw [hc] at HBS; by_cases h1 : s.heard ≤ now
   · have d1 := decide_eq_true h1
     have hw64 : IntKind.i64.wrap (now - s.heard) = now - s.heard := IntWalk.i64_in _ (by have := HI.out; unfold I64 at this; omega); have HW := Hd hw64; clear hw64; go_enter Tryz.func27, Tryz.ntmps27
     go_wp2_with fail; have fM := HM.out.fa; have fMHBS := (HBS.out.ext HM.out.extTo).reads; have fLHBS := (HBS.out.ext HM.out.extTo).lt; have hE0 : Keeps NoB w w.drew := (Keeps.refl _ _).drew; refine rgE qSB20 [8, 17, 26, 31] [1] [] ?_ (hp := (plan3 [0, 1, 3, 7, 15, 31, 63, 127, 255, 511, 1023, 2047, 4095, 4095, 12287, 28671, 61439, 126975, 262143, 524287, 1048575, 2097151, 2097151, 6291455, 14680063, 31457279, 65011711, 134217727, 2097151, 270532607, 807403519, 1881145343, 4294967295, 8589934591, 17179869183] (by kernel_rfl) rfl (by kernel_rfl))); simp only [qSB20, planL, nL]; refine pM _ rfl rfl ?_; simp only [nP, nE]; refine plan_does rfl (fun K hK => ?_); go_wp2_with fail; refine cret (snone_no _ sb _ ((HBS.out.ext hE0).reads.1 0)) ?_; have hE2 := hE0; refine hK _ _ ⟨ClsE.of (by assumption), ?_⟩; clear hK K; try simp only [nP]
     iterate 3 (first | (refine pM _ rfl rfl ?_; simp only [nP, nE]) | (refine pR (by rfl) (fun W => by go_simp <;> with_reducible rfl) ?_; simp only [nP]))
     iterate 3 ((refine pR rfl (fun W => by go_simp <;> with_reducible rfl) ?_; simp only [nP]))
     iterate 4 (first | (refine pM _ rfl rfl ?_; simp only [nP, nE]) | (refine pR (by rfl) (fun W => by go_simp <;> with_reducible rfl) ?_; simp only [nP]) | (refine pL (by rfl) (fun W => by go_simp <;> with_reducible rfl) ?_; simp only [nP]))
     iterate 2 ((refine pM _ rfl rfl ?_; simp only [nP, nE]))
     iterate 3 ((refine pR rfl (fun W => by go_simp <;> with_reducible rfl) ?_; simp only [nP]))
     iterate 4 (first | (refine pM _ rfl rfl ?_; simp only [nP, nE]) | (refine pR (by rfl) (fun W => by go_simp <;> with_reducible rfl) ?_; simp only [nP]) | (refine pL (by rfl) (fun W => by go_simp <;> with_reducible rfl) ?_; simp only [nP]))
     iterate 2 ((refine pM _ rfl rfl ?_; simp only [nP, nE]))
     iterate 3 ((refine pR rfl (fun W => by go_simp <;> with_reducible rfl) ?_; simp only [nP]))
     refine pL rfl (fun W => by go_simp <;> with_reducible rfl) ?_; simp only [nP]; refine pR rfl (fun W => by go_simp <;> with_reducible rfl) ?_; simp only [nP]; refine pM _ rfl rfl ?_; simp only [nP, nE]; iterate 2 ((refine pR rfl (fun W => by go_simp <;> with_reducible rfl) ?_; simp only [nP]))
     iterate 4 (first | (refine pA _ rfl rfl ?_; simp only [nP, nE]) | (refine pR (by rfl) (fun W => by go_simp <;> with_reducible rfl) ?_; simp only [nP]) | (refine pL (by rfl) (fun W => by go_simp <;> with_reducible rfl) ?_; simp only [nP]))
     refine plan_nil ?_; simp only [tailL, List.filterMap_nil]; go_wp2_with fail; clear fM fMHBS fLHBS; go_ret; exact ⟨by simp [d1, HW.out], Ext.drew0 w⟩
   · have d1 := decide_eq_false h1
     go_enter Tryz.func27, Tryz.ntmps27
     go_wp2_with fail; have fM := HM.out.fa; have fMHBS := (HBS.out.ext HM.out.extTo).reads; have fLHBS := (HBS.out.ext HM.out.extTo).lt; have hE0 : Keeps NoB w w.drew := (Keeps.refl _ _).drew; refine rgE qSB20 [8, 17, 26, 31] [1] [] ?_ (hp := (plan3 [0, 1, 3, 7, 15, 31, 63, 127, 255, 511, 1023, 2047, 4095, 4095, 12287, 28671, 61439, 126975, 262143, 524287, 1048575, 2097151, 2097151, 6291455, 14680063, 31457279, 65011711, 134217727, 2097151, 270532607, 807403519, 1881145343, 4294967295, 8589934591, 17179869183] (by kernel_rfl) rfl (by kernel_rfl))); simp only [qSB20, planL, nL]; refine pM _ rfl rfl ?_; simp only [nP, nE]; refine plan_does rfl (fun K hK => ?_); go_wp2_with fail; refine cret (snone_no _ sb _ ((HBS.out.ext hE0).reads.1 0)) ?_; have hE2 := hE0; refine hK _ _ ⟨ClsE.of (by assumption), ?_⟩; clear hK K; try simp only [nP]
     iterate 3 (first | (refine pM _ rfl rfl ?_; simp only [nP, nE]) | (refine pR (by rfl) (fun W => by go_simp <;> with_reducible rfl) ?_; simp only [nP]))
     iterate 3 ((refine pR rfl (fun W => by go_simp <;> with_reducible rfl) ?_; simp only [nP]))
     iterate 4 (first | (refine pM _ rfl rfl ?_; simp only [nP, nE]) | (refine pR (by rfl) (fun W => by go_simp <;> with_reducible rfl) ?_; simp only [nP]) | (refine pL (by rfl) (fun W => by go_simp <;> with_reducible rfl) ?_; simp only [nP]))
     iterate 2 ((refine pM _ rfl rfl ?_; simp only [nP, nE]))
     iterate 3 ((refine pR rfl (fun W => by go_simp <;> with_reducible rfl) ?_; simp only [nP]))
     iterate 4 (first | (refine pM _ rfl rfl ?_; simp only [nP, nE]) | (refine pR (by rfl) (fun W => by go_simp <;> with_reducible rfl) ?_; simp only [nP]) | (refine pL (by rfl) (fun W => by go_simp <;> with_reducible rfl) ?_; simp only [nP]))
     iterate 2 ((refine plan_skip rfl ?_; simp only [nP]))
     iterate 3 ((refine plan_skip rfl ?_; simp only [nP]))
     iterate 3 (refine plan_skip rfl ?_; simp only [nP])
     iterate 2 ((refine plan_skip rfl ?_; simp only [nP]))
     iterate 4 (first | (refine plan_skip rfl ?_; simp only [nP]) | (refine pA _ rfl rfl ?_; simp only [nP, nE]) | (refine pR (by rfl) (fun W => by go_simp <;> with_reducible rfl) ?_; simp only [nP]))
     refine plan_nil ?_; simp only [tailL, List.filterMap_nil]; go_wp2_with fail; clear fM fMHBS fLHBS; go_ret; exact ⟨by simp [d1], Ext.drew0 w⟩
theorem soffer1 (w : World) (k9 : Nat) (x : Sd) (hx : OkS x) (hk : I64 x.kind) (B9 : Box w k9 37 x.cells) (hT : Tabs w) :
 Calls Tryz.prog 89 #[.pointer (some ⟨k9, 0, none⟩)] w fun e w' => e = .returned (.bool (sdB x)) ∧ Ext w w' := by
 replace B9 := Hd B9; have HV := Hd (show x.v = .agg x.cells.toArray from rfl); obtain ⟨cB9, zB9⟩ := B9.out.reads; have lB9 := B9.out.lt; unfold Sd.cells at cB9; go_enter Tryz.func89, Tryz.ntmps89
 go_wp2_with fail; refine (check_any w w hT (Keeps.refl _ _) x hx hk).mono ?_; rintro e w7 ⟨rfl, hE⟩; have HE := Hd hE; have HC := Hd (show chkI x = if sdB x = true then 0 else 2 from rfl); rw [HC.out]; clear hE; cases hb : sdB x
 · rw [if_neg Bool.false_ne_true]
   go_wp2_with fail; go_ret; exact ⟨by rw [hb]; rfl, HE.out⟩
 · rw [if_pos rfl]
   go_wp2_with fail; go_ret; exact ⟨by rw [hb]; rfl, HE.out⟩
theorem soffer3 (w : World) (sb k4 k5 rb : Nat) (bv : Value) (s : Ss) (i : Int) (BS : Box w sb 99 (sesC rb bv s)) (B4 : Box w k4 64 [.pointer (some ⟨sb, 0, none⟩)]) (B5 : Box w k5 2 [.int .i64 i]) :
 Calls Tryz.prog 94 #[.pointer (some ⟨k5, 0, none⟩), .pointer (some ⟨k4, 0, none⟩)] w fun e w' => e = .returned (.bool (i != s.next)) ∧ Ext w w' := by
 replace BS := Hd BS; replace B4 := Hd B4; replace B5 := Hd B5; obtain ⟨cBS, zBS⟩ := BS.out.reads; have lBS := BS.out.lt; obtain ⟨cB4, zB4⟩ := B4.out.reads; have lB4 := B4.out.lt; obtain ⟨cB5, zB5⟩ := B5.out.reads; have lB5 := B5.out.lt; go_enter Tryz.func94, Tryz.ntmps94
 go_wp2_with fail; have hE0 : Keeps NoB w w.drew := (Keeps.refl _ _).drew; refine rgE [(3, 0), (3, 1), (0, 2), (0, 3), (0, 4), (3, 5), (0, 6), (0, 7)] [] [] [] ?_; simp only [planL, nL]; iterate 8 (first | (refine pA _ rfl rfl ?_; simp only [nP, nE]) | (refine pR (by rfl) (fun W => by go_simp <;> with_reducible rfl) ?_; simp only [nP]) | (refine pX (by rfl) (by go_simp <;> with_reducible rfl) ?_; simp only [nP]))
 refine plan_nil ?_; simp only [tailL, List.filterMap_nil]; go_wp2_with fail; go_ret; exact ⟨rfl, Ext.drew0 w⟩
def offS (s : Ss) (b : List UInt8) : Ss := if (s.ring.put ⟨false, 0, b⟩).2.2 ≠ 0 then { s with live := false } else { s with ring := (s.ring.put ⟨false, 0, b⟩).1, next := s.next + 1 }
theorem put_most (R : AR) (x : It) : (R.put x).1.most = R.most := by
 unfold AR.put; split
 · rfl
 · split
   · rfl
   · cases R.items.findIdx? (p33 x) with
     | some i => rfl
     | none =>
       dsimp only; split
       · rfl
       · cases R.items.findIdx? p34 with
         | some i => rfl
         | none => dsimp only; split <;> rfl
theorem soffer2 {F : Nat → Prop} {w0 : World} (w : World) (hX : TabX F w0) (sb k4 k9 k10 rb : Nat) (bv : Value) (s : Ss) (x : Sd) (hx : OkS x) (hb : sdB x = true) (hl : s.ring.lost ≤ 1000000) (hn : 0 ≤ s.next ∧ s.next ≤ 2147483648)
 (h : Mem F w0 w [cellsR k10 4 [.bool false], cellsR k9 37 x.cells, cellsR k4 64 [.pointer (some ⟨sb, 0, none⟩)], cellsR sb 99 (sesC rb bv s), ringR rb s.ring, byeR bv s.bye]) :
 Calls Tryz.prog 91 #[.pointer (some ⟨k9, 0, none⟩), .pointer (some ⟨k4, 0, none⟩), .pointer (some ⟨k10, 0, none⟩)] w fun e w' => e = .returned (.tuple #[]) ∧ Mem F w0 w' [cellsR k10 4 [.bool (decide ((s.ring.put ⟨false, 0, rawS x⟩).2.2 ≠ 0))], sesR sb (offS s (rawS x))] := by
 have HM := Hd h; have HX := Hd hX; have HB := Hd hb; have hrl := raw_len x hb; have HV := Hd (show x.v = .agg x.cells.toArray from rfl); obtain ⟨b, hbe⟩ : ∃ b, rawS x = b := ⟨_, rfl⟩; have HPE := Hd (fun h => put_err s.ring ⟨false, 0, b⟩ h); have HPM := Hd (put_most s.ring ⟨false, 0, b⟩); obtain ⟨⟨R', n1, e1⟩, hp⟩ : ∃ p, s.ring.put ⟨false, 0, b⟩ = p := ⟨_, rfl⟩; unfold offS; rw [hbe, hp]; rw [hbe] at hrl; rw [hp] at HPE HPM; dsimp only at HPE HPM ⊢; have HRL := Hd hrl; have HBE := Hd hbe; have HP := Hd hp; clear h hX hb hbe hp hrl; go_enter Tryz.func91, Tryz.ntmps91
 unfold Sd.cells at HM; have fM := HM.out.fa; go_wp2_with fail; all_goals clear fM
 rw [← HV.out]; refine (raw_ok w w (tabs_mem HX.out HM.out) (Keeps.refl _ _) x hx HB.out).mono ?_; rintro e w3 ⟨v, rfl, hU⟩; rw [show frameL (bodyL x) = b from HBE.out] at hU; replace HM := Hd (HM.out.newU hU); obtain ⟨a3, c3, rfl⟩ := HM.out.fact fun A h => bytR.len h
 clear hU; have fM := HM.out.fa; go_wp2_with fail; all_goals clear fM
 obtain ⟨C, B, hC, hBv, hd, -, hS⟩ := HM.out.beside (r := ringR rb s.ring) (x := bytR (.slice a3 b.length c3) b) pk pk; refine (put_r (B := B) w3 rb s.ring ⟨false, 0, b⟩ _ hC ⟨_, rfl, bytR.bytes hBv⟩ (fun h => hd _ h (ringR.own hC)) (by have := HRL.out; dsimp only; omega) hl).mono ?_; rintro e w4 ⟨rfl, hU⟩; replace HM := Hd (hS _ _ hU); rw [HP.out] at HM ⊢; dsimp only at HM ⊢; clear hC hBv hd hS hU; clear C B; by_cases he : e1 = 0
 · subst he
   have hw : wrap64 (s.next + 1) = s.next + 1 := IntWalk.wrap64_in _ (by omega); have fM := HM.out.fa; go_wp2_with fail; all_goals clear fM
   refine nxt HM fun w5 M => ?_
   replace HM := M; clear M; go_end0
   rw [← HPM.out] at HM; have h1 := Mem.sub (L' := sesM sb rb bv { s with ring := R', next := s.next + 1 } [cellsR k10 4 [.bool false]]) HM.out sbI; exact ⟨rfl, Mem.sub (Mem.sesClose (s := { s with ring := R', next := s.next + 1 }) h1) (by repeat first | exact Sub.nil | refine Sub.cons (by with_reducible repeat first | exact ph | apply pt) ?_)⟩
 · have hR := HPE.out he
   have g1 : ((e1 : Int) == 0) = false := by simp; omega
   have g2 : ((e1 : Int) != 0) = true := by simp; omega
   have d1 := decide_eq_true he; subst hR; have HD1 := Hd d1; have HEE := Hd he; clear d1 he; have fM := HM.out.fa; go_wp2_with fail; all_goals clear fM
   refine nxt HM fun w5 M => ?_
   replace HM := M; clear M; refine bodyPost_ret (results_none rfl _ _ _) rfl ?_; try rw [if_pos HEE.out]
   try rw [HD1.out]
   have h1 := Mem.sub (L' := sesM sb rb bv { s with live := false } [cellsR k10 4 [.bool true]]) HM.out sbI; exact ⟨rfl, Mem.sub (Mem.sesClose (s := { s with live := false }) h1) (by repeat first | exact Sub.nil | refine Sub.cons (by with_reducible repeat first | exact ph | apply pt) ?_)⟩
theorem offer_does (s : Ss) (i : Int) (e : En) (t : List UInt8) (p : Flt) (hp : p.why = 320) :
 (doesB false (sdB (lineS i e t)) s.closed [(p, i != s.next)] = true → s.offer i e t = (offS s (rawS (lineS i e t)), if (s.ring.put ⟨false, 0, rawS (lineS i e t)⟩).2.2 ≠ 0 then 350 else 0) ∧ doesI false (sdB (lineS i e t)) s.closed [(p, i != s.next)] = 0) ∧
 (doesB false (sdB (lineS i e t)) s.closed [(p, i != s.next)] = false → s.offer i e t = (s, doesI false (sdB (lineS i e t)) s.closed [(p, i != s.next)])) := by
 unfold Ss.offer doesI doesB offS; cases h1 : sdB (lineS i e t)
 · simp
 · cases h2 : s.closed
   · by_cases h3 : i = s.next
     · subst h3
       simp [firstF, noneF]; split <;> rfl
     · have h4 : (i != s.next) = true := by simpa using h3
       rw [h4]; simp [firstF, noneF, h3, hp]
   · simp
theorem okS_line {i : Int} {e : En} {t : List UInt8} (he : I64 e.kind) (h1 : e.text.length ≤ 500000) (h2 : t.length ≤ 500000) : OkS (lineS i e t) := ⟨he, by show ([] : List UInt8).length ≤ _; simp, by show t.length ≤ _; omega, by show e.text.length ≤ _; omega⟩
theorem offer_any {A : Nat → Prop} (w : World) (sb : Nat) (s : Ss) (k : Nat) (hok : OkSs s k) (hk : k ≤ 1000000) (i : Int) (e : En) (t : List UInt8) (he : I64 e.kind) (hl1 : e.text.length ≤ 500000) (hl2 : t.length ≤ 500000) (h : (sesR sb s).p A w) (hX : TabX A w) :
 Calls Tryz.prog 30 #[.pointer (some ⟨sb, 0, none⟩), .int .i64 i, .agg e.cells.toArray, .string (bs t)] w fun r w' => r = .returned (.int .i64 (s.offer i e t).2) ∧ Upd A w w' (sesR sb (s.offer i e t).1) := by
 obtain ⟨rb, bv, hm⟩ := (Mem.start h).sesOpen; have HM := Hd hm; have HX := Hd hX; have HOK := Hd hok; have HOS := Hd (okS_line (i := i) he hl1 hl2); clear hm h hX hok; unfold En.cells; go_enter Tryz.func30, Tryz.ntmps30
 have fM := HM.out.fa; go_wp2_with fail; all_goals clear fM
 obtain ⟨k4, hk4⟩ : ∃ k, w.heap.size = k := ⟨_, rfl⟩; obtain ⟨k5, hk5⟩ : ∃ k, k4 + 1 = k := ⟨_, rfl⟩; obtain ⟨k6, hk6⟩ : ∃ k, k5 + 1 = k := ⟨_, rfl⟩; obtain ⟨k9, hk9⟩ : ∃ k, k6 + 1 = k := ⟨_, rfl⟩; obtain ⟨k10, hk10⟩ : ∃ k, k9 + 1 = k := ⟨_, rfl⟩; obtain ⟨kf, hkf⟩ : ∃ k, k10 + 1 = k := ⟨_, rfl⟩; refine nxt HM fun w1 M => ?_
 replace HM := M; clear M; rw [hk4, hk5, hk6, hk9, hk10, hkf] at HM; rw [hk4, hk5, hk6, hk9, hk10, hkf]; clear hk4 hk5 hk6 hk9 hk10 hkf; have hm2 : Mem A w w1 [cellsR kf 158 [.func (.func 94) #[] #[.pointer (some ⟨k5, 0, none⟩), .pointer (some ⟨k4, 0, none⟩)], .int .i64 320], cellsR k10 4 [.bool false], cellsR k9 37 (lineS i e t).cells, cellsR k5 2 [.int .i64 i], cellsR k4 64 [.pointer (some ⟨sb, 0, none⟩)], cellsR sb 99 (sesC rb bv s), ringR rb s.ring, byeR bv s.bye] := Mem.sub HM.out (.cons ph (.cons ph (.cons ph (.cons (pt ph) (.cons (pt ph) (.cons (pt ph) (.cons (pt ph) (.cons (pt ph) .nil)))))))); replace HM := Hd hm2; clear hm2; obtain ⟨_, hb4⟩ := HM.out.get (r := cellsR k4 64 [.pointer (some ⟨sb, 0, none⟩)]) pk; obtain ⟨_, hb5⟩ := HM.out.get (r := cellsR k5 2 [.int .i64 i]) pk; obtain ⟨_, hb9⟩ := HM.out.get (r := cellsR k9 37 (lineS i e t).cells) pk; obtain ⟨_, hbf⟩ := HM.out.get (r := cellsR kf 158 [.func (.func 94) #[] #[.pointer (some ⟨k5, 0, none⟩), .pointer (some ⟨k4, 0, none⟩)], .int .i64 320]) pk; obtain ⟨_, hbs⟩ := HM.out.get (r := cellsR sb 99 (sesC rb bv s)) pk; have HT1 := Hd (tabs_mem HX.out HM.out); have m1 : TellsF w1 ⟨89, #[], #[.pointer (some ⟨k9, 0, none⟩)], 0⟩ (sdB (lineS i e t)) := ⟨enters_of Tryz.func89 (by kernel_rfl) rfl, fun w2 h2 => soffer1 w2 k9 _ HOS.out (by show I64 9; unfold I64; decide) (hb9.2.ext h2) (HT1.out.ext h2)⟩; have m3 : TellsF w1 ⟨94, #[], #[.pointer (some ⟨k5, 0, none⟩), .pointer (some ⟨k4, 0, none⟩)], 320⟩ (i != s.next) := ⟨enters_of Tryz.func94 (by kernel_rfl) rfl, fun w2 h2 => soffer3 w2 sb k4 k5 rb bv s i (hbs.2.ext h2) (hb4.2.ext h2) (hb5.2.ext h2)⟩
 have m2 := fun (hb : doesB false (sdB (lineS i e t)) s.closed [((⟨94, #[], #[.pointer (some ⟨k5, 0, none⟩), .pointer (some ⟨k4, 0, none⟩)], 320⟩ : Flt), i != s.next)] = true) w2 (h2 : Ext w1 w2) =>
  soffer2 w2 HX.out sb k4 k9 k10 rb bv s (lineS i e t) HOS.out (doesB_may hb) (Nat.le_trans HOK.out.lost hk) ⟨by have := HOK.out.next0; have := HOK.out.sent0; have := HOK.out.ack0; omega, HOK.out.next1⟩ (Mem.sub (HM.out.ext h2) sbI)
 have hd := does_any (Q := fun w' => Mem A w w' [cellsR k10 4 [.bool (decide ((s.ring.put ⟨false, 0, rawS (lineS i e t)⟩).2.2 ≠ 0))], sesR sb (offS s (rawS (lineS i e t)))]) w1 (some ⟨sb, 0, none⟩) false (sdB (lineS i e t)) s.closed 89 91 #[] #[.pointer (some ⟨k9, 0, none⟩)] #[] #[.pointer (some ⟨k9, 0, none⟩), .pointer (some ⟨k4, 0, none⟩), .pointer (some ⟨k10, 0, none⟩)] (.slice (some ⟨kf, 0, none⟩) 1 1) _ (by simp) (fun w2 h2 => snone_ses (hbs.2.ext h2)) (fun _ => m1) (fun _ => ⟨sb, rfl, hbs.2.reads.1 8⟩) (.inr ⟨kf, ⟨94, #[], #[.pointer (some ⟨k5, 0, none⟩), .pointer (some ⟨k4, 0, none⟩)], 320⟩, _, rfl, rfl, hbf.2, m3⟩) (enters_of Tryz.func91 (by kernel_rfl) rfl) (fun hb => m2 hb); clear m1 m2 m3; refine hd.mono ?_; clear hd; rintro r w2 ⟨rfl, h1, h2⟩; obtain ⟨p1, p2⟩ := offer_does s i e t (⟨94, #[], #[.pointer (some ⟨k5, 0, none⟩), .pointer (some ⟨k4, 0, none⟩)], 320⟩ : Flt) rfl; cases hb : doesB false (sdB (lineS i e t)) s.closed [((⟨94, #[], #[.pointer (some ⟨k5, 0, none⟩), .pointer (some ⟨k4, 0, none⟩)], 320⟩ : Flt), i != s.next)] with
 | true =>
   obtain ⟨q1, q2⟩ := p1 hb; rw [q2]; have HQ := Hd q1; replace HM := Hd (h1 hb); clear h1 h2 p1 p2 q1 q2 hb hb4 hb5 hb9 hbf hbs; by_cases he0 : (s.ring.put ⟨false, 0, rawS (lineS i e t)⟩).2.2 = 0
   · rw [decide_eq_false (fun h => h he0)] at HM
     rw [if_neg (fun h => h he0)] at HQ; clear he0; have fM := HM.out.fa; go_wp2_with fail; all_goals clear fM
     refine nxt HM fun w3 M => ?_
     replace HM := M; clear M; go_ret; rw [HQ.out]; exact ⟨rfl, (HM.out.pick (r := sesR sb (offS s (rawS (lineS i e t)))) pk).upd⟩
   · rw [decide_eq_true he0] at HM
     rw [if_pos he0] at HQ; clear he0; have fM := HM.out.fa; go_wp2_with fail; all_goals clear fM
     refine nxt HM fun w3 M => ?_
     replace HM := M; clear M; go_ret; rw [HQ.out]; exact ⟨rfl, (HM.out.pick (r := sesR sb (offS s (rawS (lineS i e t)))) pk).upd⟩
 | false =>
   have HQ := Hd (p2 hb); replace HM := Hd (HM.out.ext (h2 hb)); obtain ⟨n, hn⟩ : ∃ n, doesI false (sdB (lineS i e t)) s.closed [((⟨94, #[], #[.pointer (some ⟨k5, 0, none⟩), .pointer (some ⟨k4, 0, none⟩)], 320⟩ : Flt), i != s.next)] = n := ⟨_, rfl⟩; rw [hn] at HQ ⊢; clear h1 h2 p1 p2 hb hb4 hb5 hb9 hbf hbs hn; have fM := HM.out.fa; go_wp2_with fail; all_goals clear fM
   refine nxt HM fun w3 M => ?_
   replace HM := M; clear M; go_ret; rw [HQ.out]; exact ⟨rfl, Mem.sesUpd (Mem.sub HM.out (by repeat first | exact Sub.nil | refine Sub.cons (by with_reducible repeat first | exact ph | apply pt) ?_))⟩
end Go.Proofs.YtoadjbgpfihoiaaGreatDoor
