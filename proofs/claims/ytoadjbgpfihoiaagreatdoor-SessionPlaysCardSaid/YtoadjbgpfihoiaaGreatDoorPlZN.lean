/- Texts SB2, SB3, one behind the other. Conditions: as each says. -/
import Derived.Test.YtoadjbgpfihoiaaGreatDoorPlZL
set_option linter.unusedVariables false
set_option linter.unusedSimpArgs false
set_option maxHeartbeats 8000000
set_option maxRecDepth 100000
namespace Go.Proofs.YtoadjbgpfihoiaaGreatDoor
open Go.RowKit
def qSB20 : List (Nat × Nat) := [(0, 0), (2, 1), (0, 2), (0, 3), (0, 4), (0, 5), (0, 6), (0, 7), (1, 8), (0, 9), (0, 10), (0, 11), (0, 12), (0, 13), (0, 14), (0, 15), (0, 16), (1, 17), (0, 18), (0, 19), (0, 20), (0, 21), (0, 22), (0, 23), (0, 24), (0, 25), (1, 26), (0, 27), (0, 28), (0, 29), (0, 30), (1, 31), (0, 32), (0, 33), (0, 34)]
theorem silent_any {A : Nat → Prop} (w : World) (sb : Nat) (s : Ss) (now : Int) (h : (sesR sb s).p A w) (hh : 0 ≤ s.heard) (hn : I64 now) :
 Calls Tryz.prog 27 #[.pointer (some ⟨sb, 0, none⟩), .int .i64 now] w fun e w' => e = .returned (.bool (s.silent now)) ∧ Ext w w' := by
 obtain ⟨rb, bv, A1, A2, hb, hr, hy, -, -⟩ := ses_parts h; have HM := Hd (Mem.start0 w); have HBS := Hd hb; have HI := Hd hn; clear h hb hr hy hn; unfold Ss.silent; cases hc : s.closed with
 | true =>
   unfold sesC at HBS; rw [hc] at HBS; go_enter Tryz.func27, Tryz.ntmps27
   go_wp2_with fail; have fM := HM.out.fa; have fMHBS := (HBS.out.ext HM.out.extTo).reads; have fLHBS := (HBS.out.ext HM.out.extTo).lt; have hE0 : Keeps NoB w w.drew := (Keeps.refl _ _).drew; refine rgE qSB20 [8, 17, 26, 31] [1] [] ?_ (hp := (plan3 [0, 1, 3, 7, 15, 31, 63, 127, 255, 511, 1023, 2047, 4095, 4095, 12287, 28671, 61439, 126975, 262143, 524287, 1048575, 2097151, 2097151, 6291455, 14680063, 31457279, 65011711, 134217727, 2097151, 270532607, 807403519, 1881145343, 4294967295, 8589934591, 17179869183] (by kernel_rfl) rfl (by kernel_rfl))); simp only [qSB20, planL, nL]; refine pM _ rfl rfl ?_; simp only [nP, nE]; refine plan_does rfl (fun K hK => ?_); go_wp2_with fail; refine cret (snone_no _ sb _ ((HBS.out.ext hE0).reads.1 0)) ?_; have hE2 := hE0; refine hK _ _ ⟨ClsE.of (by assumption), ?_⟩; clear hK K; try simp only [nP]
   iterate 3 (first | (refine pM _ rfl rfl ?_; simp only [nP, nE]) | (refine pR (by rfl) (fun W => by go_simp <;> with_reducible rfl) ?_; simp only [nP]))
   iterate 3 ((refine pR rfl (fun W => by go_simp <;> with_reducible rfl) ?_; simp only [nP]))
   iterate 4 (first | (refine pM _ rfl rfl ?_; simp only [nP, nE]) | (refine pR (by rfl) (fun W => by go_simp <;> with_reducible rfl) ?_; simp only [nP]) | (refine pL (by rfl) (fun W => by go_simp <;> with_reducible rfl) ?_; simp only [nP]))
   iterate 2 ((refine plan_skip rfl ?_; simp only [nP]))
   iterate 3 ((refine plan_skip rfl ?_; simp only [nP]))
   iterate 4 (first | (refine plan_skip rfl ?_; simp only [nP]) | (refine pM _ rfl rfl ?_; simp only [nP, nE]) | (refine pR (by rfl) (fun W => by go_simp <;> with_reducible rfl) ?_; simp only [nP]))
   iterate 2 ((refine plan_skip rfl ?_; simp only [nP]))
   iterate 3 ((refine plan_skip rfl ?_; simp only [nP]))
   iterate 3 (refine plan_skip rfl ?_; simp only [nP])
   iterate 2 ((refine plan_skip rfl ?_; simp only [nP]))
   iterate 4 (first | (refine plan_skip rfl ?_; simp only [nP]) | (refine pA _ rfl rfl ?_; simp only [nP, nE]) | (refine pR (by rfl) (fun W => by go_simp <;> with_reducible rfl) ?_; simp only [nP]))
   refine plan_nil ?_; simp only [tailL, List.filterMap_nil]; go_wp2_with fail; clear fM fMHBS fLHBS; go_ret; exact ⟨rfl, Ext.drew0 w⟩
 | false =>
   unfold sesC at HBS; rw [hc] at HBS; by_cases h1 : s.heard ≤ now
   · have d1 := decide_eq_true h1
     have hw64 : IntKind.i64.wrap (now - s.heard) = now - s.heard := IntWalk.i64_in _ (by have := HI.out; unfold I64 at this; omega); have HW := Hd hw64; clear hw64; go_enter Tryz.func27, Tryz.ntmps27
     go_wp2_with fail; have fM := HM.out.fa; have fMHBS := (HBS.out.ext HM.out.extTo).reads; have fLHBS := (HBS.out.ext HM.out.extTo).lt; have hE0 : Keeps NoB w w.drew := (Keeps.refl _ _).drew; refine rgE qSB20 [8, 17, 26, 31] [1] [] ?_ (hp := (plan3 [0, 1, 3, 7, 15, 31, 63, 127, 255, 511, 1023, 2047, 4095, 4095, 12287, 28671, 61439, 126975, 262143, 524287, 1048575, 2097151, 2097151, 6291455, 14680063, 31457279, 65011711, 134217727, 2097151, 270532607, 807403519, 1881145343, 4294967295, 8589934591, 17179869183] (by kernel_rfl) rfl (by kernel_rfl))); simp only [qSB20, planL, nL]; refine pM _ rfl rfl ?_; simp only [nP, nE]; refine plan_does rfl (fun K hK => ?_); go_wp2_with fail; refine cret (snone_no _ sb _ ((HBS.out.ext hE0).reads.1 0)) ?_; have hE2 := hE0; refine hK _ _ ⟨ClsE.of (by assumption), ?_⟩; clear hK K; try simp only [nP]
     iterate 3 (first | (refine pM _ rfl rfl ?_; simp only [nP, nE]) | (refine pR (by rfl) (fun W => by go_simp <;> with_reducible rfl) ?_; simp only [nP]))
     iterate 3 ((refine pR rfl (fun W => by go_simp <;> with_reducible rfl) ?_; simp only [nP]))
     iterate 4 (first | (refine pM _ rfl rfl ?_; simp only [nP, nE]) | (refine pR (by rfl) (fun W => by go_simp <;> with_reducible rfl) ?_; simp only [nP]) | (refine pL (by rfl) (fun W => by go_simp <;> with_reducible rfl) ?_; simp only [nP]))
     iterate 2 ((refine pM _ rfl rfl ?_; simp only [nP, nE]))
     iterate 3 ((refine pR rfl (fun W => by go_simp <;> with_reducible rfl) ?_; simp only [nP]))
     iterate 4 (first | (refine pM _ rfl rfl ?_; simp only [nP, nE]) | (refine pR (by rfl) (fun W => by go_simp <;> with_reducible rfl) ?_; simp only [nP]) | (refine pL (by rfl) (fun W => by go_simp <;> with_reducible rfl) ?_; simp only [nP]))
     iterate 2 ((refine pM _ rfl rfl ?_; simp only [nP, nE]))
     iterate 3 ((refine pR rfl (fun W => by go_simp <;> with_reducible rfl) ?_; simp only [nP]))
     refine pL rfl (fun W => by go_simp <;> with_reducible rfl) ?_; simp only [nP]; refine pR rfl (fun W => by go_simp <;> with_reducible rfl) ?_; simp only [nP]; refine pM _ rfl rfl ?_; simp only [nP, nE]; iterate 2 ((refine pR rfl (fun W => by go_simp <;> with_reducible rfl) ?_; simp only [nP]))
     iterate 4 (first | (refine pA _ rfl rfl ?_; simp only [nP, nE]) | (refine pR (by rfl) (fun W => by go_simp <;> with_reducible rfl) ?_; simp only [nP]) | (refine pL (by rfl) (fun W => by go_simp <;> with_reducible rfl) ?_; simp only [nP]))
     refine plan_nil ?_; simp only [tailL, List.filterMap_nil]; go_wp2_with fail; clear fM fMHBS fLHBS; go_ret; exact ⟨by simp [d1, HW.out], Ext.drew0 w⟩
   · have d1 := decide_eq_false h1
     go_enter Tryz.func27, Tryz.ntmps27
     go_wp2_with fail; have fM := HM.out.fa; have fMHBS := (HBS.out.ext HM.out.extTo).reads; have fLHBS := (HBS.out.ext HM.out.extTo).lt; have hE0 : Keeps NoB w w.drew := (Keeps.refl _ _).drew; refine rgE qSB20 [8, 17, 26, 31] [1] [] ?_ (hp := (plan3 [0, 1, 3, 7, 15, 31, 63, 127, 255, 511, 1023, 2047, 4095, 4095, 12287, 28671, 61439, 126975, 262143, 524287, 1048575, 2097151, 2097151, 6291455, 14680063, 31457279, 65011711, 134217727, 2097151, 270532607, 807403519, 1881145343, 4294967295, 8589934591, 17179869183] (by kernel_rfl) rfl (by kernel_rfl))); simp only [qSB20, planL, nL]; refine pM _ rfl rfl ?_; simp only [nP, nE]; refine plan_does rfl (fun K hK => ?_); go_wp2_with fail; refine cret (snone_no _ sb _ ((HBS.out.ext hE0).reads.1 0)) ?_; have hE2 := hE0; refine hK _ _ ⟨ClsE.of (by assumption), ?_⟩; clear hK K; try simp only [nP]
     iterate 3 (first | (refine pM _ rfl rfl ?_; simp only [nP, nE]) | (refine pR (by rfl) (fun W => by go_simp <;> with_reducible rfl) ?_; simp only [nP]))
     iterate 3 ((refine pR rfl (fun W => by go_simp <;> with_reducible rfl) ?_; simp only [nP]))
     iterate 4 (first | (refine pM _ rfl rfl ?_; simp only [nP, nE]) | (refine pR (by rfl) (fun W => by go_simp <;> with_reducible rfl) ?_; simp only [nP]) | (refine pL (by rfl) (fun W => by go_simp <;> with_reducible rfl) ?_; simp only [nP]))
     iterate 2 ((refine pM _ rfl rfl ?_; simp only [nP, nE]))
     iterate 3 ((refine pR rfl (fun W => by go_simp <;> with_reducible rfl) ?_; simp only [nP]))
     iterate 4 (first | (refine pM _ rfl rfl ?_; simp only [nP, nE]) | (refine pR (by rfl) (fun W => by go_simp <;> with_reducible rfl) ?_; simp only [nP]) | (refine pL (by rfl) (fun W => by go_simp <;> with_reducible rfl) ?_; simp only [nP]))
     iterate 2 ((refine plan_skip rfl ?_; simp only [nP]))
     iterate 3 ((refine plan_skip rfl ?_; simp only [nP]))
     iterate 3 (refine plan_skip rfl ?_; simp only [nP])
     iterate 2 ((refine plan_skip rfl ?_; simp only [nP]))
     iterate 4 (first | (refine plan_skip rfl ?_; simp only [nP]) | (refine pA _ rfl rfl ?_; simp only [nP, nE]) | (refine pR (by rfl) (fun W => by go_simp <;> with_reducible rfl) ?_; simp only [nP]))
     refine plan_nil ?_; simp only [tailL, List.filterMap_nil]; go_wp2_with fail; clear fM fMHBS fLHBS; go_ret; exact ⟨by simp [d1], Ext.drew0 w⟩
theorem soffer1 (w : World) (k9 : Nat) (x : Sd) (hx : OkS x) (hk : I64 x.kind) (B9 : Box w k9 37 x.cells) (hT : Tabs w) :
 Calls Tryz.prog 89 #[.pointer (some ⟨k9, 0, none⟩)] w fun e w' => e = .returned (.bool (sdB x)) ∧ Ext w w' := by
 replace B9 := Hd B9; have HV := Hd (show x.v = .agg x.cells.toArray from rfl); obtain ⟨cB9, zB9⟩ := B9.out.reads; have lB9 := B9.out.lt; unfold Sd.cells at cB9; go_enter Tryz.func89, Tryz.ntmps89
 go_wp2_with fail; refine (check_any w w hT (Keeps.refl _ _) x hx hk).mono ?_; rintro e w7 ⟨rfl, hE⟩; have HE := Hd hE; have HC := Hd (show chkI x = if sdB x = true then 0 else 2 from rfl); rw [HC.out]; clear hE; cases hb : sdB x
 · rw [if_neg Bool.false_ne_true]
   go_wp2_with fail; go_ret; exact ⟨by rw [hb]; rfl, HE.out⟩
 · rw [if_pos rfl]
   go_wp2_with fail; go_ret; exact ⟨by rw [hb]; rfl, HE.out⟩
theorem soffer3 (w : World) (sb k4 k5 rb : Nat) (bv : Value) (s : Ss) (i : Int) (BS : Box w sb 99 (sesC rb bv s)) (B4 : Box w k4 64 [.pointer (some ⟨sb, 0, none⟩)]) (B5 : Box w k5 2 [.int .i64 i]) :
 Calls Tryz.prog 94 #[.pointer (some ⟨k5, 0, none⟩), .pointer (some ⟨k4, 0, none⟩)] w fun e w' => e = .returned (.bool (i != s.next)) ∧ Ext w w' := by
 replace BS := Hd BS; replace B4 := Hd B4; replace B5 := Hd B5; obtain ⟨cBS, zBS⟩ := BS.out.reads; have lBS := BS.out.lt; obtain ⟨cB4, zB4⟩ := B4.out.reads; have lB4 := B4.out.lt; obtain ⟨cB5, zB5⟩ := B5.out.reads; have lB5 := B5.out.lt; go_enter Tryz.func94, Tryz.ntmps94
 go_wp2_with fail; have hE0 : Keeps NoB w w.drew := (Keeps.refl _ _).drew; refine rgE [(3, 0), (3, 1), (0, 2), (0, 3), (0, 4), (3, 5), (0, 6), (0, 7)] [] [] [] ?_; simp only [planL, nL]; iterate 8 (first | (refine pA _ rfl rfl ?_; simp only [nP, nE]) | (refine pR (by rfl) (fun W => by go_simp <;> with_reducible rfl) ?_; simp only [nP]) | (refine pX (by rfl) (by go_simp <;> with_reducible rfl) ?_; simp only [nP]))
 refine plan_nil ?_; simp only [tailL, List.filterMap_nil]; go_wp2_with fail; go_ret; exact ⟨rfl, Ext.drew0 w⟩
def offS (s : Ss) (b : List UInt8) : Ss := if (s.ring.put ⟨false, 0, b⟩).2.2 ≠ 0 then { s with live := false } else { s with ring := (s.ring.put ⟨false, 0, b⟩).1, next := s.next + 1 }
theorem put_most (R : AR) (x : It) : (R.put x).1.most = R.most := by
 unfold AR.put; split
 · rfl
 · split
   · rfl
   · cases R.items.findIdx? (p33 x) with
     | some i => rfl
     | none =>
       dsimp only; split
       · rfl
       · cases R.items.findIdx? p34 with
         | some i => rfl
         | none => dsimp only; split <;> rfl
theorem soffer2 {F : Nat → Prop} {w0 : World} (w : World) (hX : TabX F w0) (sb k4 k9 k10 rb : Nat) (bv : Value) (s : Ss) (x : Sd) (hx : OkS x) (hb : sdB x = true) (hl : s.ring.lost ≤ 1000000) (hn : 0 ≤ s.next ∧ s.next ≤ 2147483648)
 (h : Mem F w0 w [cellsR k10 4 [.bool false], cellsR k9 37 x.cells, cellsR k4 64 [.pointer (some ⟨sb, 0, none⟩)], cellsR sb 99 (sesC rb bv s), ringR rb s.ring, byeR bv s.bye]) :
 Calls Tryz.prog 91 #[.pointer (some ⟨k9, 0, none⟩), .pointer (some ⟨k4, 0, none⟩), .pointer (some ⟨k10, 0, none⟩)] w fun e w' => e = .returned (.tuple #[]) ∧ Mem F w0 w' [cellsR k10 4 [.bool (decide ((s.ring.put ⟨false, 0, rawS x⟩).2.2 ≠ 0))], sesR sb (offS s (rawS x))] := by
 have HM := Hd h; have HX := Hd hX; have HB := Hd hb; have hrl := raw_len x hb; have HV := Hd (show x.v = .agg x.cells.toArray from rfl); obtain ⟨b, hbe⟩ : ∃ b, rawS x = b := ⟨_, rfl⟩; have HPE := Hd (fun h => put_err s.ring ⟨false, 0, b⟩ h); have HPM := Hd (put_most s.ring ⟨false, 0, b⟩); obtain ⟨⟨R', n1, e1⟩, hp⟩ : ∃ p, s.ring.put ⟨false, 0, b⟩ = p := ⟨_, rfl⟩; unfold offS; rw [hbe, hp]; rw [hbe] at hrl; rw [hp] at HPE HPM; dsimp only at HPE HPM ⊢; have HRL := Hd hrl; have HBE := Hd hbe; have HP := Hd hp; clear h hX hb hbe hp hrl; go_enter Tryz.func91, Tryz.ntmps91
 unfold Sd.cells at HM; have fM := HM.out.fa; go_wp2_with fail; all_goals clear fM
 rw [← HV.out]; refine (raw_ok w w (tabs_mem HX.out HM.out) (Keeps.refl _ _) x hx HB.out).mono ?_; rintro e w3 ⟨v, rfl, hU⟩; rw [show frameL (bodyL x) = b from HBE.out] at hU; replace HM := Hd (HM.out.newU hU); obtain ⟨a3, c3, rfl⟩ := HM.out.fact fun A h => bytR.len h
 clear hU; have fM := HM.out.fa; go_wp2_with fail; all_goals clear fM
 obtain ⟨C, B, hC, hBv, hd, -, hS⟩ := HM.out.beside (r := ringR rb s.ring) (x := bytR (.slice a3 b.length c3) b) pk pk; refine (put_r (B := B) w3 rb s.ring ⟨false, 0, b⟩ _ hC ⟨_, rfl, bytR.bytes hBv⟩ (fun h => hd _ h (ringR.own hC)) (by have := HRL.out; dsimp only; omega) hl).mono ?_; rintro e w4 ⟨rfl, hU⟩; replace HM := Hd (hS _ _ hU); rw [HP.out] at HM ⊢; dsimp only at HM ⊢; clear hC hBv hd hS hU; clear C B; by_cases he : e1 = 0
 · subst he
   have hw : wrap64 (s.next + 1) = s.next + 1 := IntWalk.wrap64_in _ (by omega); have fM := HM.out.fa; go_wp2_with fail; all_goals clear fM
   refine nxt HM fun w5 M => ?_
   replace HM := M; clear M; go_end0
   rw [← HPM.out] at HM; have h1 := Mem.sub (L' := sesM sb rb bv { s with ring := R', next := s.next + 1 } [cellsR k10 4 [.bool false]]) HM.out sbI; exact ⟨rfl, Mem.sub (Mem.sesClose (s := { s with ring := R', next := s.next + 1 }) h1) (by repeat first | exact Sub.nil | refine Sub.cons (by with_reducible repeat first | exact ph | apply pt) ?_)⟩
 · have hR := HPE.out he
   have g1 : ((e1 : Int) == 0) = false := by simp; omega
   have g2 : ((e1 : Int) != 0) = true := by simp; omega
   have d1 := decide_eq_true he; subst hR; have HD1 := Hd d1; have HEE := Hd he; clear d1 he; have fM := HM.out.fa; go_wp2_with fail; all_goals clear fM
   refine nxt HM fun w5 M => ?_
   replace HM := M; clear M; refine bodyPost_ret (results_none rfl _ _ _) rfl ?_; try rw [if_pos HEE.out]
   try rw [HD1.out]
   have h1 := Mem.sub (L' := sesM sb rb bv { s with live := false } [cellsR k10 4 [.bool true]]) HM.out sbI; exact ⟨rfl, Mem.sub (Mem.sesClose (s := { s with live := false }) h1) (by repeat first | exact Sub.nil | refine Sub.cons (by with_reducible repeat first | exact ph | apply pt) ?_)⟩
theorem offer_does (s : Ss) (i : Int) (e : En) (t : List UInt8) (p : Flt) (hp : p.why = 320) :
 (doesB false (sdB (lineS i e t)) s.closed [(p, i != s.next)] = true → s.offer i e t = (offS s (rawS (lineS i e t)), if (s.ring.put ⟨false, 0, rawS (lineS i e t)⟩).2.2 ≠ 0 then 350 else 0) ∧ doesI false (sdB (lineS i e t)) s.closed [(p, i != s.next)] = 0) ∧
 (doesB false (sdB (lineS i e t)) s.closed [(p, i != s.next)] = false → s.offer i e t = (s, doesI false (sdB (lineS i e t)) s.closed [(p, i != s.next)])) := by
 unfold Ss.offer doesI doesB offS; cases h1 : sdB (lineS i e t)
 · simp
 · cases h2 : s.closed
   · by_cases h3 : i = s.next
     · subst h3
       simp [firstF, noneF]; split <;> rfl
     · have h4 : (i != s.next) = true := by simpa using h3
       rw [h4]; simp [firstF, noneF, h3, hp]
   · simp
theorem okS_line {i : Int} {e : En} {t : List UInt8} (he : I64 e.kind) (h1 : e.text.length ≤ 500000) (h2 : t.length ≤ 500000) : OkS (lineS i e t) := ⟨he, by show ([] : List UInt8).length ≤ _; simp, by show t.length ≤ _; omega, by show e.text.length ≤ _; omega⟩
theorem offer_any {A : Nat → Prop} (w : World) (sb : Nat) (s : Ss) (k : Nat) (hok : OkSs s k) (hk : k ≤ 1000000) (i : Int) (e : En) (t : List UInt8) (he : I64 e.kind) (hl1 : e.text.length ≤ 500000) (hl2 : t.length ≤ 500000) (h : (sesR sb s).p A w) (hX : TabX A w) :
 Calls Tryz.prog 30 #[.pointer (some ⟨sb, 0, none⟩), .int .i64 i, .agg e.cells.toArray, .string (bs t)] w fun r w' => r = .returned (.int .i64 (s.offer i e t).2) ∧ Upd A w w' (sesR sb (s.offer i e t).1) := by
 obtain ⟨rb, bv, hm⟩ := (Mem.start h).sesOpen; have HM := Hd hm; have HX := Hd hX; have HOK := Hd hok; have HOS := Hd (okS_line (i := i) he hl1 hl2); clear hm h hX hok; unfold En.cells; go_enter Tryz.func30, Tryz.ntmps30
 have fM := HM.out.fa; go_wp2_with fail; all_goals clear fM
 obtain ⟨k4, hk4⟩ : ∃ k, w.heap.size = k := ⟨_, rfl⟩; obtain ⟨k5, hk5⟩ : ∃ k, k4 + 1 = k := ⟨_, rfl⟩; obtain ⟨k6, hk6⟩ : ∃ k, k5 + 1 = k := ⟨_, rfl⟩; obtain ⟨k9, hk9⟩ : ∃ k, k6 + 1 = k := ⟨_, rfl⟩; obtain ⟨k10, hk10⟩ : ∃ k, k9 + 1 = k := ⟨_, rfl⟩; obtain ⟨kf, hkf⟩ : ∃ k, k10 + 1 = k := ⟨_, rfl⟩; refine nxt HM fun w1 M => ?_
 replace HM := M; clear M; rw [hk4, hk5, hk6, hk9, hk10, hkf] at HM; rw [hk4, hk5, hk6, hk9, hk10, hkf]; clear hk4 hk5 hk6 hk9 hk10 hkf; have hm2 : Mem A w w1 [cellsR kf 158 [.func (.func 94) #[] #[.pointer (some ⟨k5, 0, none⟩), .pointer (some ⟨k4, 0, none⟩)], .int .i64 320], cellsR k10 4 [.bool false], cellsR k9 37 (lineS i e t).cells, cellsR k5 2 [.int .i64 i], cellsR k4 64 [.pointer (some ⟨sb, 0, none⟩)], cellsR sb 99 (sesC rb bv s), ringR rb s.ring, byeR bv s.bye] := Mem.sub HM.out (.cons ph (.cons ph (.cons ph (.cons (pt ph) (.cons (pt ph) (.cons (pt ph) (.cons (pt ph) (.cons (pt ph) .nil)))))))); replace HM := Hd hm2; clear hm2; obtain ⟨_, hb4⟩ := HM.out.get (r := cellsR k4 64 [.pointer (some ⟨sb, 0, none⟩)]) pk; obtain ⟨_, hb5⟩ := HM.out.get (r := cellsR k5 2 [.int .i64 i]) pk; obtain ⟨_, hb9⟩ := HM.out.get (r := cellsR k9 37 (lineS i e t).cells) pk; obtain ⟨_, hbf⟩ := HM.out.get (r := cellsR kf 158 [.func (.func 94) #[] #[.pointer (some ⟨k5, 0, none⟩), .pointer (some ⟨k4, 0, none⟩)], .int .i64 320]) pk; obtain ⟨_, hbs⟩ := HM.out.get (r := cellsR sb 99 (sesC rb bv s)) pk; have HT1 := Hd (tabs_mem HX.out HM.out); have m1 : TellsF w1 ⟨89, #[], #[.pointer (some ⟨k9, 0, none⟩)], 0⟩ (sdB (lineS i e t)) := ⟨enters_of Tryz.func89 (by kernel_rfl) rfl, fun w2 h2 => soffer1 w2 k9 _ HOS.out (by show I64 9; unfold I64; decide) (hb9.2.ext h2) (HT1.out.ext h2)⟩; have m3 : TellsF w1 ⟨94, #[], #[.pointer (some ⟨k5, 0, none⟩), .pointer (some ⟨k4, 0, none⟩)], 320⟩ (i != s.next) := ⟨enters_of Tryz.func94 (by kernel_rfl) rfl, fun w2 h2 => soffer3 w2 sb k4 k5 rb bv s i (hbs.2.ext h2) (hb4.2.ext h2) (hb5.2.ext h2)⟩
 have m2 := fun (hb : doesB false (sdB (lineS i e t)) s.closed [((⟨94, #[], #[.pointer (some ⟨k5, 0, none⟩), .pointer (some ⟨k4, 0, none⟩)], 320⟩ : Flt), i != s.next)] = true) w2 (h2 : Ext w1 w2) =>
  soffer2 w2 HX.out sb k4 k9 k10 rb bv s (lineS i e t) HOS.out (doesB_may hb) (Nat.le_trans HOK.out.lost hk) ⟨by have := HOK.out.next0; have := HOK.out.sent0; have := HOK.out.ack0; omega, HOK.out.next1⟩ (Mem.sub (HM.out.ext h2) sbI)
 have hd := does_any (Q := fun w' => Mem A w w' [cellsR k10 4 [.bool (decide ((s.ring.put ⟨false, 0, rawS (lineS i e t)⟩).2.2 ≠ 0))], sesR sb (offS s (rawS (lineS i e t)))]) w1 (some ⟨sb, 0, none⟩) false (sdB (lineS i e t)) s.closed 89 91 #[] #[.pointer (some ⟨k9, 0, none⟩)] #[] #[.pointer (some ⟨k9, 0, none⟩), .pointer (some ⟨k4, 0, none⟩), .pointer (some ⟨k10, 0, none⟩)] (.slice (some ⟨kf, 0, none⟩) 1 1) _ (by simp) (fun w2 h2 => snone_ses (hbs.2.ext h2)) (fun _ => m1) (fun _ => ⟨sb, rfl, hbs.2.reads.1 8⟩) (.inr ⟨kf, ⟨94, #[], #[.pointer (some ⟨k5, 0, none⟩), .pointer (some ⟨k4, 0, none⟩)], 320⟩, _, rfl, rfl, hbf.2, m3⟩) (enters_of Tryz.func91 (by kernel_rfl) rfl) (fun hb => m2 hb); clear m1 m2 m3; refine hd.mono ?_; clear hd; rintro r w2 ⟨rfl, h1, h2⟩; obtain ⟨p1, p2⟩ := offer_does s i e t (⟨94, #[], #[.pointer (some ⟨k5, 0, none⟩), .pointer (some ⟨k4, 0, none⟩)], 320⟩ : Flt) rfl; cases hb : doesB false (sdB (lineS i e t)) s.closed [((⟨94, #[], #[.pointer (some ⟨k5, 0, none⟩), .pointer (some ⟨k4, 0, none⟩)], 320⟩ : Flt), i != s.next)] with
 | true =>
   obtain ⟨q1, q2⟩ := p1 hb; rw [q2]; have HQ := Hd q1; replace HM := Hd (h1 hb); clear h1 h2 p1 p2 q1 q2 hb hb4 hb5 hb9 hbf hbs; by_cases he0 : (s.ring.put ⟨false, 0, rawS (lineS i e t)⟩).2.2 = 0
   · rw [decide_eq_false (fun h => h he0)] at HM
     rw [if_neg (fun h => h he0)] at HQ; clear he0; have fM := HM.out.fa; go_wp2_with fail; all_goals clear fM
     refine nxt HM fun w3 M => ?_
     replace HM := M; clear M; go_ret; rw [HQ.out]; exact ⟨rfl, (HM.out.pick (r := sesR sb (offS s (rawS (lineS i e t)))) pk).upd⟩
   · rw [decide_eq_true he0] at HM
     rw [if_pos he0] at HQ; clear he0; have fM := HM.out.fa; go_wp2_with fail; all_goals clear fM
     refine nxt HM fun w3 M => ?_
     replace HM := M; clear M; go_ret; rw [HQ.out]; exact ⟨rfl, (HM.out.pick (r := sesR sb (offS s (rawS (lineS i e t)))) pk).upd⟩
 | false =>
   have HQ := Hd (p2 hb); replace HM := Hd (HM.out.ext (h2 hb)); obtain ⟨n, hn⟩ : ∃ n, doesI false (sdB (lineS i e t)) s.closed [((⟨94, #[], #[.pointer (some ⟨k5, 0, none⟩), .pointer (some ⟨k4, 0, none⟩)], 320⟩ : Flt), i != s.next)] = n := ⟨_, rfl⟩; rw [hn] at HQ ⊢; clear h1 h2 p1 p2 hb hb4 hb5 hb9 hbf hbs hn; have fM := HM.out.fa; go_wp2_with fail; all_goals clear fM
   refine nxt HM fun w3 M => ?_
   replace HM := M; clear M; go_ret; rw [HQ.out]; exact ⟨rfl, Mem.sesUpd (Mem.sub HM.out (by repeat first | exact Sub.nil | refine Sub.cons (by with_reducible repeat first | exact ph | apply pt) ?_))⟩
def besD : List (Int × Value) := [(10, .int .i64 0), (11, .int .i64 16)]
def besK (k : Int) : Bool := decide (k = 10) || decide (k = 11)
theorem look_bes (k : Int) : lookI besD k (.int .i64 0) = (.int .i64 (if k = 11 then 16 else 0), besK k) := by
 unfold lookI besD besK; by_cases h1 : k = 10
 · subst h1; rfl
 · by_cases h2 : k = 11
   · subst h2; rfl
   · have a1 : ¬ (10 : Int) = k := fun h => h1 h.symm
     have a2 : ¬ (11 : Int) = k := fun h => h2 h.symm
     simp [a1, a2, h1, h2]
theorem zeroI (w : World) : (zeroValue 3).run Tryz.prog w = .ok (.int .i64 0) w := by kernel_rfl
theorem sbes1 (w : World) (k3 k7 : Nat) (x : Sd) (hx : OkS x) (hk : I64 x.kind) (b : Bool) (B3 : Box w k3 37 x.cells) (B7 : Box w k7 4 [.bool b]) (hT : Tabs w) :
 Calls Tryz.prog 105 #[.pointer (some ⟨k7, 0, none⟩), .pointer (some ⟨k3, 0, none⟩)] w fun e w' => e = .returned (.bool (b && sdB x)) ∧ Ext w w' := by
 replace B3 := Hd B3; replace B7 := Hd B7; have HV := Hd (show x.v = .agg x.cells.toArray from rfl); obtain ⟨cB3, zB3⟩ := B3.out.reads; have lB3 := B3.out.lt; obtain ⟨cB7, zB7⟩ := B7.out.reads; have lB7 := B7.out.lt; unfold Sd.cells at cB3; cases b with
 | false =>
   go_enter Tryz.func105, Tryz.ntmps105
   go_wp2_with fail; go_ret; exact ⟨rfl, Keeps.refl _ _⟩
 | true =>
   go_enter Tryz.func105, Tryz.ntmps105
   go_wp2_with fail; refine (check_any w w hT (Keeps.refl _ _) x hx hk).mono ?_; rintro e w7 ⟨rfl, hE⟩; have HE := Hd hE; have HC := Hd (show chkI x = if sdB x = true then 0 else 2 from rfl); rw [HC.out]; clear hE; cases hb : sdB x
   · rw [if_neg Bool.false_ne_true]
     go_wp2_with fail; go_ret; exact ⟨by rw [hb]; rfl, HE.out⟩
   · rw [if_pos rfl]
     go_wp2_with fail; go_ret; exact ⟨by rw [hb]; rfl, HE.out⟩
theorem sbes2 {F : Nat → Prop} {w0 : World} (w : World) (hX : TabX F w0) (sb k2 k3 k4 k6 rb : Nat) (bv : Value) (s : Ss) (x : Sd) (kz : Int) (hkz : kz = if x.kind = 11 then 16 else 0) (hx : OkS x) (hb : sdB x = true) (hm : 0 ≤ x.member ∧ x.member ≤ 15) (hl : s.ring.lost ≤ 1000000)
 (h : Mem F w0 w [cellsR k6 3 [.int .i64 kz], cellsR k4 3 [.int .i64 0], cellsR k3 37 x.cells, cellsR k2 64 [.pointer (some ⟨sb, 0, none⟩)], cellsR sb 99 (sesC rb bv s), ringR rb s.ring, byeR bv s.bye]) :
 Calls Tryz.prog 106 #[.pointer (some ⟨k3, 0, none⟩), .pointer (some ⟨k2, 0, none⟩), .pointer (some ⟨k6, 0, none⟩), .pointer (some ⟨k4, 0, none⟩)] w fun e w' =>
  e = .returned (.tuple #[]) ∧ Mem F w0 w' [cellsR k4 3 [.int .i64 ((s.ring.put ⟨true, Ss.keyS x, rawS x⟩).2.1 : Nat)], sesR sb { s with ring := (s.ring.put ⟨true, Ss.keyS x, rawS x⟩).1 }] := by
 have HM := Hd h; have HX := Hd hX; have HB := Hd hb; have hrl := raw_len x hb; have HV := Hd (show x.v = .agg x.cells.toArray from rfl); have hky : Ss.keyS x = kz + x.member := by rw [hkz]; unfold Ss.keyS; omega
 have hk0 : 0 ≤ kz ∧ kz ≤ 16 := by rw [hkz]; split <;> omega
 rw [hky]; obtain ⟨b, hbe⟩ : ∃ b, rawS x = b := ⟨_, rfl⟩; have HPM := Hd (put_most s.ring ⟨true, kz + x.member, b⟩); obtain ⟨⟨R', n1, e1⟩, hp⟩ : ∃ p, s.ring.put ⟨true, kz + x.member, b⟩ = p := ⟨_, rfl⟩; rw [hbe, hp]; rw [hbe] at hrl; rw [hp] at HPM; dsimp only at HPM ⊢; have HRL := Hd hrl; have HBE := Hd hbe; have HP := Hd hp; have hw : IntKind.i64.wrap (kz + x.member) = kz + x.member := IntWalk.i64_in _ (by omega); have HW := Hd hw; clear h hX hb hbe hp hrl hkz hky hw; go_enter Tryz.func106, Tryz.ntmps106
 unfold Sd.cells at HM; have fM := HM.out.fa; go_wp2_with fail; all_goals clear fM
 rw [← HV.out]; refine (raw_ok w w (tabs_mem HX.out HM.out) (Keeps.refl _ _) x hx HB.out).mono ?_; rintro e w3 ⟨v, rfl, hU⟩; rw [show frameL (bodyL x) = b from HBE.out] at hU; replace HM := Hd (HM.out.newU hU); obtain ⟨a3, c3, rfl⟩ := HM.out.fact fun A h => bytR.len h
 clear hU; have fM := HM.out.fa; go_wp2_with fail; all_goals clear fM
 obtain ⟨C, B, hC, hBv, hd, -, hS⟩ := HM.out.beside (r := ringR rb s.ring) (x := bytR (.slice a3 b.length c3) b) pk pk; have fM := HM.out.fa; have hw := HW.out; have hE0 : Keeps (fun k => C k ∨ k = k4) w3 w3.drew := (Keeps.refl _ _).drew; refine rgK (fun k => C k ∨ k = k4) [(3, 0), (0, 1), (0, 2), (3, 3), (3, 4), (0, 5), (3, 6), (0, 7), (0, 8), (0, 9), (2, 10), (0, 11), (0, 12), (0, 13)] [] [10, 14] [14] ?_; simp only [planL, nL]; iterate 10 (first | (refine pM _ rfl rfl ?_; simp only [nP, nE]) | (refine pR (by rfl) (fun W => by go_simp <;> with_reducible rfl) ?_; simp only [nP]) | (refine pX (by rfl) (by go_simp <;> with_reducible rfl) ?_; simp only [nP]))
 refine plan_does rfl (fun K hK => ?_); go_wp2_with fail; refine (put_r (B := B) _ rb s.ring ⟨true, kz + x.member, b⟩ _ (Res.keeps _ hC (Ext.drew0 w3) (fun _ _ => noB _)) ⟨_, rfl, (bytR.bytes hBv).ext (Ext.drew0 w3)⟩ (fun h => hd _ h (ringR.own hC)) (by have := HRL.out; dsimp only; omega) hl).mono ?_; rintro e w4 ⟨rfl, hU⟩; have hE4 := hE0.trans (hU.keepsTo.mono (T := fun k => C k ∨ k = k4) fun k _ h => .inl h); replace HM := Hd (hS _ _ (hU.pre (Ext.drew0 w3))); rw [HP.out] at HM ⊢; dsimp only at HM ⊢; clear hU; clear fM; have fM := HM.out.fa; refine hK _ _ ⟨ClsK.of (by assumption), ?_⟩; clear hK K; try simp only [nP]
 refine pM _ rfl rfl ?_; simp only [nP, nE]; iterate 2 (refine pR rfl (fun W => by go_simp <;> with_reducible rfl) ?_; simp only [nP])
 refine plan_nil ?_; simp only [tailL, List.filterMap_cons, List.filterMap_nil, nL]; change wpList _ _ _ (_ :: []) _ _; go_wp2_with fail; clear fM; refine nxt HM fun w5 M => ?_
 replace HM := M; clear M; go_end0
 have hce : sesC rb bv s = sesC rb bv { s with ring := R' } := by
  show [_, _, _, _, _, _, _, _, _, _, Value.int .i64 (s.ring.most : Int), _, _] = [_, _, _, _, _, _, _, _, _, _, Value.int .i64 (R'.most : Int), _, _]
  rw [HPM.out]
 rw [hce] at HM; have h1 := Mem.sub (L' := sesM sb rb bv { s with ring := R' } [cellsR k4 3 [.int .i64 (n1 : Int)]]) HM.out sbI; exact ⟨rfl, Mem.sub (Mem.sesClose (s := { s with ring := R' }) h1) (by repeat first | exact Sub.nil | refine Sub.cons (by with_reducible repeat first | exact ph | apply pt) ?_)⟩
theorem lv_int (w : World) (b : Nat) (n : Int) (h : w.cell? ⟨b, 0, none⟩ = some (.int .i64 n)) : (loadVar 3 ⟨b, 0, none⟩).run Tryz.prog w = .ok (.int .i64 n) w := by simp [go_sem, h]
theorem at_mk {P : Program} {ops : Array Oper} {Q : Exit → Act → World → Prop} {o : Oper} {rest : List Oper} {a : Act} {w : World} (ty : TypeId) (ho : o.op = .makeMap ty none) (h : wpList P ops Q (o :: rest) a w) : wpList P ops Q (o :: rest) a w := h
theorem beside_does (s : Ss) (x : Sd) :
 (doesB false (besK x.kind && sdB x) s.closed [] = true → s.beside x = ({ s with ring := (s.ring.put ⟨true, Ss.keyS x, rawS x⟩).1 }, (((s.ring.put ⟨true, Ss.keyS x, rawS x⟩).2.1 : Nat) : Int), 0) ∧ doesI false (besK x.kind && sdB x) s.closed [] = 0) ∧
 (doesB false (besK x.kind && sdB x) s.closed [] = false → s.beside x = (s, 0, doesI false (besK x.kind && sdB x) s.closed [])) := by
 unfold Ss.beside doesI doesB; have : Ss.besOk x = (besK x.kind && sdB x) := rfl; rw [this]; cases h1 : (besK x.kind && sdB x)
 · simp
 · cases h2 : s.closed
   · simp [firstF, noneF]
   · simp
theorem sd_member {x : Sd} (h : (besK x.kind && sdB x) = true) : 0 ≤ x.member ∧ x.member ≤ 15 := by
 rw [Bool.and_eq_true] at h; obtain ⟨h1, h2⟩ := h; unfold besK at h1; simp only [Bool.or_eq_true, decide_eq_true_eq] at h1; unfold sdB at h2; have : partsOf x.kind = some [.member, .is] := by rcases h1 with h | h <;> rw [h] <;> rfl
 rw [this] at h2; simp only [Bool.and_eq_true, List.all_cons, Part.may, decide_eq_true_eq] at h2; exact h2.2.1
theorem beside_any {A : Nat → Prop} (w : World) (sb : Nat) (s : Ss) (k : Nat) (hok : OkSs s k) (hk : k ≤ 1000000) (x : Sd) (hx : OkS x) (hxk : I64 x.kind) (h : (sesR sb s).p A w) (hX : TabX A w) :
 Calls Tryz.prog 42 #[.pointer (some ⟨sb, 0, none⟩), x.v] w fun r w' => r = .returned (.tuple #[.int .i64 (s.beside x).2.1, .int .i64 (s.beside x).2.2]) ∧ Upd A w w' (sesR sb (s.beside x).1) := by
 obtain ⟨rb, bv, hm⟩ := (Mem.start h).sesOpen; have HM := Hd hm; have HX := Hd hX; have HOK := Hd hok; have HOS := Hd hx; have HKI := Hd hxk; have HV := Hd (show x.v = .agg x.cells.toArray from rfl); rw [HV.out]; clear hm h hX hok hx hxk; unfold Sd.cells; go_enter Tryz.func42, Tryz.ntmps42
 have fM := HM.out.fa; go_wp2_with ((with_reducible refine at_mk 163 rfl ?_); refine standing ?_); all_goals clear fM
 obtain ⟨k2, hk2⟩ : ∃ k, w.heap.size = k := ⟨_, rfl⟩; obtain ⟨k3, hk3⟩ : ∃ k, k2 + 1 = k := ⟨_, rfl⟩; obtain ⟨k4, hk4⟩ : ∃ k, k3 + 1 = k := ⟨_, rfl⟩; refine nxt HM fun w1 M => ?_
 replace HM := M; clear M; rw [hk2, hk3, hk4] at HM; rw [hk2, hk3, hk4]; clear hk2 hk3 hk4; have hmm := run_makeMap (P := Tryz.prog) 163 w1; have put := fun (w : World) (D : List (Int × Value)) (m : Nat) (h : MapI w m D) (n : Int) (hn : I64 n) (hne : ∀ p ∈ D, p.1 ≠ n) (v : Value) => h.put Tryz.underlying163 Tryz.underlying32 hn hne v
 obtain ⟨w2, r1, m1, k1⟩ := put _ _ _ (mapi_new w1) 10 (i64_lit 10 rfl) (by simp) (.int .i64 0); obtain ⟨w3, r2, m2, k2'⟩ := put _ _ _ m1 11 (i64_lit 11 rfl) (by simp) (.int .i64 16); have hE3 : Ext w1 w3 := ((Keeps.refl NoB w1).alloc _).then (k1.trans k2') fun i hi h => absurd (show i = w1.heap.size from h) (by omega)
 have hlk : (Instr.lookup 163 (.map (some w1.heap.size)) (.int .i64 x.kind) true).run Tryz.prog w3 = .ok (.tuple #[(lookI besD x.kind (.int .i64 0)).1, .bool (lookI besD x.kind (.int .i64 0)).2]) w3 :=
  MapI.look (D := besD) m2 Tryz.underlying163 Tryz.underlying32 zeroI HKI.out (by unfold besD; simp) true
 rw [look_bes] at hlk; dsimp only at hlk; obtain ⟨kz, hkz⟩ : ∃ kz : Int, kz = if x.kind = 11 then 16 else 0 := ⟨_, rfl⟩
 obtain ⟨bk, hbk⟩ : ∃ bk, besK x.kind = bk := ⟨_, rfl⟩; rw [← hkz, hbk] at hlk; have HKZ := Hd hkz; have HBK := Hd hbk; replace HM := Hd (HM.out.ext hE3); clear m1 m2 k1 k2' put hE3 hkz hbk; refine ⟨?_⟩; have fM := HM.out.fa; go_wp2_with fail; all_goals clear fM
 obtain ⟨k6, hk6⟩ : ∃ k, w3.heap.size = k := ⟨_, rfl⟩; obtain ⟨k7, hk7⟩ : ∃ k, k6 + 1 = k := ⟨_, rfl⟩; refine nxt HM fun w4 M => ?_
 replace HM := M; clear M; rw [hk6, hk7] at HM; rw [hk6, hk7]; clear hk6 hk7 r1 r2 hlk hmm; have hm2 : Mem A w w4 [cellsR k7 4 [.bool bk], cellsR k6 3 [.int .i64 kz], cellsR k4 3 [.int .i64 0], cellsR k3 37 x.cells, cellsR k2 64 [.pointer (some ⟨sb, 0, none⟩)], cellsR sb 99 (sesC rb bv s), ringR rb s.ring, byeR bv s.bye] := HM.out; replace HM := Hd hm2; clear hm2; obtain ⟨_, hb3⟩ := HM.out.get (r := cellsR k3 37 x.cells) pk; obtain ⟨_, hb7⟩ := HM.out.get (r := cellsR k7 4 [.bool bk]) pk; obtain ⟨_, hbs⟩ := HM.out.get (r := cellsR sb 99 (sesC rb bv s)) pk; have HT1 := Hd (tabs_mem HX.out HM.out); have m1 : TellsF w4 ⟨105, #[], #[.pointer (some ⟨k7, 0, none⟩), .pointer (some ⟨k3, 0, none⟩)], 0⟩ (bk && sdB x) := ⟨enters_of Tryz.func105 (by kernel_rfl) rfl, fun w2 h2 => sbes1 w2 k3 k7 x HOS.out HKI.out bk (hb3.2.ext h2) (hb7.2.ext h2) (HT1.out.ext h2)⟩
 have m2 := fun (hb : doesB false (bk && sdB x) s.closed [] = true) w2 (h2 : Ext w4 w2) =>
  sbes2 w2 HX.out sb k2 k3 k4 k6 rb bv s x kz HKZ.out HOS.out (by have := doesB_may hb; rw [Bool.and_eq_true] at this; exact this.2) (sd_member (by rw [HBK.out]; exact doesB_may hb)) (Nat.le_trans HOK.out.lost hk) (Mem.sub (HM.out.ext h2) sbI)
 have hd := does_any (Q := fun w' => Mem A w w' [cellsR k4 3 [.int .i64 ((s.ring.put ⟨true, Ss.keyS x, rawS x⟩).2.1 : Nat)], sesR sb { s with ring := (s.ring.put ⟨true, Ss.keyS x, rawS x⟩).1 }]) w4 (some ⟨sb, 0, none⟩) false (bk && sdB x) s.closed 105 106 #[] #[.pointer (some ⟨k7, 0, none⟩), .pointer (some ⟨k3, 0, none⟩)] #[] #[.pointer (some ⟨k3, 0, none⟩), .pointer (some ⟨k2, 0, none⟩), .pointer (some ⟨k6, 0, none⟩), .pointer (some ⟨k4, 0, none⟩)] (.slice none 0 0) [] (by simp) (fun w2 h2 => snone_ses (hbs.2.ext h2)) (fun _ => m1) (fun _ => ⟨sb, rfl, hbs.2.reads.1 8⟩) (.inl ⟨rfl, rfl⟩) (enters_of Tryz.func106 (by kernel_rfl) rfl) (fun hb => m2 hb); clear m1 m2; refine hd.mono ?_; clear hd; rintro r w5 ⟨rfl, h1, h2⟩; obtain ⟨p1, p2⟩ := beside_does s x; rw [HBK.out] at p1 p2; cases hb : doesB false (bk && sdB x) s.closed [] with
 | true =>
   obtain ⟨q1, q2⟩ := p1 hb; rw [q2]; have HQ := Hd q1; replace HM := Hd (h1 hb); clear h1 h2 p1 p2 q1 q2 hb hb3 hb7 hbs; have fM := HM.out.fa; go_wp2_with fail; all_goals clear fM
   refine nxt HM fun w6 M => ?_
   replace HM := M; clear M; obtain ⟨_, hb4⟩ := HM.out.get (r := cellsR k4 3 [.int .i64 ((s.ring.put ⟨true, Ss.keyS x, rawS x⟩).2.1 : Nat)]) pk; refine bodyPost_ret (results_ct rfl _ rfl (lv_int w6 k4 _ (hb4.2.reads.1 0))) rfl ?_; rw [HQ.out]; exact ⟨rfl, (HM.out.pick (r := sesR sb { s with ring := (s.ring.put ⟨true, Ss.keyS x, rawS x⟩).1 }) pk).upd⟩
 | false =>
   have HQ := Hd (p2 hb); replace HM := Hd (HM.out.ext (h2 hb)); obtain ⟨n, hn⟩ : ∃ n, doesI false (bk && sdB x) s.closed [] = n := ⟨_, rfl⟩; rw [hn] at HQ ⊢; clear h1 h2 p1 p2 hb hb3 hb7 hbs hn; have fM := HM.out.fa; go_wp2_with fail; all_goals clear fM
   refine nxt HM fun w6 M => ?_
   replace HM := M; clear M; obtain ⟨_, hb4⟩ := HM.out.get (r := cellsR k4 3 [.int .i64 0]) pk; refine bodyPost_ret (results_ct rfl _ rfl (lv_int w6 k4 _ (hb4.2.reads.1 0))) rfl ?_; rw [HQ.out]; exact ⟨rfl, Mem.sesUpd (Mem.sub HM.out (by repeat first | exact Sub.nil | refine Sub.cons (by with_reducible repeat first | exact ph | apply pt) ?_))⟩
end Go.Proofs.YtoadjbgpfihoiaaGreatDoor
