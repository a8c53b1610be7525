/- Texts Right, one behind the other. Conditions: as each says. -/
import Derived.Test.YtoadjbgpfihoiaaGreatDoorPlY
import Derived.Test.YtoadjbgpfihoiaaGreatDoorPlZF
set_option linter.unusedVariables false
set_option linter.unusedSimpArgs false
set_option maxHeartbeats 8000000
set_option maxRecDepth 100000
namespace Go.Proofs.YtoadjbgpfihoiaaGreatDoor
open Go.RowKit
def qRight0 : List (Nat × Nat) := [(0, 0), (0, 1), (0, 2), (0, 3), (0, 4), (0, 5), (0, 6), (1, 7), (3, 8), (2, 9), (0, 10), (0, 11), (0, 12), (0, 13), (1, 14), (0, 15), (0, 16), (0, 17), (0, 18), (1, 19), (0, 20), (0, 21), (0, 22), (0, 23), (1, 24), (0, 25), (0, 26), (0, 27), (0, 28), (1, 29), (0, 30), (0, 31), (0, 32), (0, 33), (1, 34), (0, 35), (0, 36), (0, 37), (0, 38), (1, 39), (0, 40), (0, 41), (0, 42), (0, 43), (1, 44), (0, 45), (0, 46), (0, 47), (0, 48)]
theorem bool_ext {p q : Bool} (h : p = true ↔ q = true) : p = q := by cases p <;> cases q <;> simp_all
def bndB (s : Sd) : Bool := decide (0 ≤ s.member) && decide (s.member < 16) && decide (0 ≤ s.number) && decide (s.number ≤ 2147483647) && decide (0 ≤ s.index) && decide (s.index ≤ 2147483647) && decide (s.token.length ≤ 200)
def ownB (s : Sd) : Bool := if s.kind = 4 then decide (1 ≤ s.number) && (chk s.text == 0) else if s.kind = 9 then enB s.e && decide (s.e.kind ≠ 1) else true
theorem right_eq (s : Sd) : (decide (1 ≤ s.kind ∧ s.kind ≤ 12) && decide (s = loneS s) && bndB s && ownB s) = sdB s := by
 obtain ⟨k, m, n, i, is, t, tok, en⟩ := s; by_cases hk : 1 ≤ k ∧ k ≤ 12
 · obtain rfl | rfl | rfl | rfl | rfl | rfl | rfl | rfl | rfl | rfl | rfl | rfl : k = 1 ∨ k = 2 ∨ k = 3 ∨ k = 4 ∨ k = 5 ∨ k = 6 ∨ k = 7 ∨ k = 8 ∨ k = 9 ∨ k = 10 ∨ k = 11 ∨ k = 12 := by omega
   all_goals
    apply bool_ext
    simp [sdB, partsOf, loneS, Part.keep, Part.clear, Part.may, Sd.of, bndB, ownB, En0]; try constructor
    all_goals (intros; simp_all; try omega)
 · have : partsOf k = none := by
    unfold partsOf; simp only [show ¬ k = 1 by omega, show ¬ k = 2 by omega, show ¬ k = 3 by omega, show ¬ k = 4 by omega, show ¬ k = 5 by omega, show ¬ k = 6 by omega, show ¬ k = 7 by omega, show ¬ k = 8 by omega, show ¬ k = 9 by omega, show ¬ k = 10 by omega, show ¬ k = 11 by omega, show ¬ k = 12 by omega, if_false]
   unfold sdB; dsimp only; rw [this, decide_eq_false hk]; rfl
theorem bnd_iff (s : Sd) : bndB s = true ↔ (0 ≤ s.member ∧ s.member < 16 ∧ 0 ≤ s.number ∧ s.number ≤ 2147483647 ∧ 0 ≤ s.index ∧ s.index ≤ 2147483647 ∧ s.token.length ≤ 200) := by
 unfold bndB; simp only [Bool.and_eq_true, decide_eq_true_eq]; constructor
 · rintro ⟨⟨⟨⟨⟨⟨h1, h2⟩, h3⟩, h4⟩, h5⟩, h6⟩, h7⟩; exact ⟨h1, h2, h3, h4, h5, h6, h7⟩
 · rintro ⟨h1, h2, h3, h4, h5, h6, h7⟩; exact ⟨⟨⟨⟨⟨⟨h1, h2⟩, h3⟩, h4⟩, h5⟩, h6⟩, h7⟩
theorem bnd_not {s : Sd} (h : ¬ (0 ≤ s.member ∧ s.member < 16 ∧ 0 ≤ s.number ∧ s.number ≤ 2147483647 ∧ 0 ≤ s.index ∧ s.index ≤ 2147483647 ∧ s.token.length ≤ 200)) {a b c : Bool} : (a && b && bndB s && c) = false := by
 cases hb : bndB s
 · simp
 · exact absurd ((bnd_iff s).1 hb) h
theorem docRight_any (W w : World) (hT : Tabs W) (hE : Ext W w) (s : Sd) (hs : s.text.length ≤ 500000 ∧ s.e.text.length ≤ 500000 ∧ s.token.length ≤ 500000) : Calls Tryz.prog 85 #[s.v] w fun e w' => e = .returned (.bool (sdB s)) ∧ Ext w w' := by
 rw [← right_eq]; obtain ⟨q, hq⟩ : ∃ q, (decide (1 ≤ s.kind ∧ s.kind ≤ 12) && decide (s = loneS s) && bndB s && ownB s) = q := ⟨_, rfl⟩; rw [hq]; have HQ := Hd hq; clear hq; have HM := Hd (Mem.start0 w); have HE := Hd hE; have HS := Hd hs; obtain ⟨x, hx⟩ : ∃ x, loneS s = x := ⟨_, rfl⟩; have HZ := Hd hx; have HEQ := Hd (show ∀ W, (binOp .eql 37 (.agg #[.int .i64 s.kind, .int .i64 s.member, .int .i64 s.number, .int .i64 s.index, .bool s.is, .string (bs s.text), .string (bs s.token), .int .i64 s.e.kind, .int .i64 s.e.member, .int .i64 s.e.number, .string (bs s.e.text)]) (.agg #[.int .i64 x.kind, .int .i64 x.member, .int .i64 x.number, .int .i64 x.index, .bool x.is, .string (bs x.text), .string (bs x.token), .int .i64 x.e.kind, .int .i64 x.e.member, .int .i64 x.e.number, .string (bs x.e.text)])).run Tryz.prog W = .ok (.bool (decide (s = loneS s))) W from fun W => by rw [← hx]; exact eq_sd s (loneS s) W); have HLO := Hd (fun (h : 1 ≤ s.kind ∧ s.kind ≤ 12) w => lone_any w s h); rw [hx, show x.v = .agg #[.int .i64 x.kind, .int .i64 x.member, .int .i64 x.number, .int .i64 x.index, .bool x.is, .string (bs x.text), .string (bs x.token), .int .i64 x.e.kind, .int .i64 x.e.member, .int .i64 x.e.number, .string (bs x.e.text)] from rfl] at HLO; have HV := Hd (show s.v = .agg #[.int .i64 s.kind, .int .i64 s.member, .int .i64 s.number, .int .i64 s.index, .bool s.is, .string (bs s.text), .string (bs s.token), .int .i64 s.e.kind, .int .i64 s.e.member, .int .i64 s.e.number, .string (bs s.e.text)] from rfl); rw [HV.out] at HLO ⊢; clear hE hs hx; go_enter Tryz.func85, Tryz.ntmps85
 have fM := HM.out.fa; go_wp2_with fail; all_goals clear fM
 refine nxt HM fun w1 M => ?_
 replace HM := M; clear M; by_cases k1 : 1 ≤ s.kind
 case neg =>
  obtain rfl : q = false := by rw [← HQ.out, decide_eq_false (fun h => k1 h.1)]; rfl
  clear HEQ HLO; have fM := HM.out.fa; have hE0 : Keeps NoB w1 w1.drew := (Keeps.refl _ _).drew; refine rgE qRight0 [7, 14, 19, 24, 29, 34, 39, 44] [9] [] ?_ (hp := (plan3 [0, 1, 3, 7, 15, 31, 63, 127, 127, 383, 1023, 2047, 4095, 8191, 16383, 32767, 65535, 131071, 262143, 524287, 1048575, 2097151, 4194303, 8388607, 16777215, 33554431, 67108863, 134217727, 268435455, 536870911, 1073741823, 2147483647, 4294967295, 8589934591, 17179869183, 34359738367, 68719476735, 137438953471, 274877906943, 549755813887, 1099511627775, 2199023255551, 4398046511103, 8796093022207, 17592186044415, 35184372088831, 70368744177663, 140737488355327, 281474976710655] (by kernel_rfl) rfl (by kernel_rfl))); simp only [qRight0, planL, nL]; iterate 45 (first | (refine plan_skip rfl ?_; simp only [nP]) | (refine pM _ rfl rfl ?_; simp only [nP, nE]) | (refine pR (by rfl) (fun W => by go_simp <;> with_reducible rfl) ?_; simp only [nP]))
  iterate 2 ((refine plan_skip rfl ?_; simp only [nP]))
  refine pR rfl (fun W => by go_simp <;> with_reducible rfl) ?_; simp only [nP]; refine pA _ rfl rfl ?_; simp only [nP, nE]; refine plan_nil ?_; simp only [tailL, List.filterMap_nil]; clear fM; refine nxt HM fun w2 M => ?_
  replace HM := M; clear M; by_cases k4 : s.kind = 4
  · skip
    have fM := HM.out.fa; go_wp2_with fail; all_goals clear fM
    go_ret; exact ⟨rfl, HM.out.extTo⟩
  by_cases k9 : s.kind = 9
  · skip
    have fM := HM.out.fa; go_wp2_with fail; all_goals clear fM
    go_ret; exact ⟨rfl, HM.out.extTo⟩
  have fM := HM.out.fa; go_wp2_with fail; all_goals clear fM
  go_ret; exact ⟨rfl, HM.out.extTo⟩
 by_cases k2 : s.kind ≤ 12
 case neg =>
  obtain rfl : q = false := by rw [← HQ.out, decide_eq_false (fun h => k2 h.2)]; rfl
  clear HEQ HLO; have fM := HM.out.fa; have hE0 : Keeps NoB w1 w1.drew := (Keeps.refl _ _).drew; refine rgE qRight0 [7, 14, 19, 24, 29, 34, 39, 44] [9] [] ?_ (hp := (plan3 [0, 1, 3, 7, 15, 31, 63, 127, 127, 383, 1023, 2047, 4095, 8191, 16383, 32767, 65535, 131071, 262143, 524287, 1048575, 2097151, 4194303, 8388607, 16777215, 33554431, 67108863, 134217727, 268435455, 536870911, 1073741823, 2147483647, 4294967295, 8589934591, 17179869183, 34359738367, 68719476735, 137438953471, 274877906943, 549755813887, 1099511627775, 2199023255551, 4398046511103, 8796093022207, 17592186044415, 35184372088831, 70368744177663, 140737488355327, 281474976710655] (by kernel_rfl) rfl (by kernel_rfl))); simp only [qRight0, planL, nL]; iterate 45 (first | (refine plan_skip rfl ?_; simp only [nP]) | (refine pM _ rfl rfl ?_; simp only [nP, nE]) | (refine pR (by rfl) (fun W => by go_simp <;> with_reducible rfl) ?_; simp only [nP]))
  iterate 2 ((refine plan_skip rfl ?_; simp only [nP]))
  refine pR rfl (fun W => by go_simp <;> with_reducible rfl) ?_; simp only [nP]; refine pA _ rfl rfl ?_; simp only [nP, nE]; refine plan_nil ?_; simp only [tailL, List.filterMap_nil]; clear fM; refine nxt HM fun w2 M => ?_
  replace HM := M; clear M; by_cases k4 : s.kind = 4
  · skip
    have fM := HM.out.fa; go_wp2_with fail; all_goals clear fM
    go_ret; exact ⟨rfl, HM.out.extTo⟩
  by_cases k9 : s.kind = 9
  · skip
    have fM := HM.out.fa; go_wp2_with fail; all_goals clear fM
    go_ret; exact ⟨rfl, HM.out.extTo⟩
  have fM := HM.out.fa; go_wp2_with fail; all_goals clear fM
  go_ret; exact ⟨rfl, HM.out.extTo⟩
 have K12 := Hd (show 1 ≤ s.kind ∧ s.kind ≤ 12 from ⟨k1, k2⟩); by_cases hlo : s = loneS s
 case neg =>
  obtain rfl : q = false := by rw [← HQ.out, decide_eq_false hlo, Bool.and_false]; rfl
  have heq := HEQ.out; rw [decide_eq_false hlo] at heq; clear hlo; have fM := HM.out.fa; have hE0 : Keeps NoB w1 w1.drew := (Keeps.refl _ _).drew; refine rgE qRight0 [7, 14, 19, 24, 29, 34, 39, 44] [9] [] ?_ (hp := (plan3 [0, 1, 3, 7, 15, 31, 63, 127, 127, 383, 1023, 2047, 4095, 8191, 16383, 32767, 65535, 131071, 262143, 524287, 1048575, 2097151, 4194303, 8388607, 16777215, 33554431, 67108863, 134217727, 268435455, 536870911, 1073741823, 2147483647, 4294967295, 8589934591, 17179869183, 34359738367, 68719476735, 137438953471, 274877906943, 549755813887, 1099511627775, 2199023255551, 4398046511103, 8796093022207, 17592186044415, 35184372088831, 70368744177663, 140737488355327, 281474976710655] (by kernel_rfl) rfl (by kernel_rfl))); simp only [qRight0, planL, nL]; iterate 9 (first | (refine pM _ rfl rfl ?_; simp only [nP, nE]) | (refine pR (by rfl) (fun W => by go_simp <;> with_reducible rfl) ?_; simp only [nP]) | (refine pX (by rfl) (by go_simp <;> with_reducible rfl) ?_; simp only [nP]) | (refine pL (by rfl) (fun W => by go_simp <;> with_reducible rfl) ?_; simp only [nP]))
  refine plan_does rfl (fun K hK => ?_); go_wp2_with fail; refine (HLO.out ⟨K12.out.1, K12.out.2⟩ _).mono ?_; rintro e w2 ⟨rfl, hU⟩; have hE2 := hE0.ext hU; replace HM := Hd (HM.out.ext hE2); clear hU; refine hK _ _ ⟨ClsE.of (by assumption), ?_⟩; clear hK K; try simp only [nP]
  iterate 35 (first | (refine plan_skip rfl ?_; simp only [nP]) | (refine pM _ rfl rfl ?_; simp only [nP, nE]) | (refine pR (by rfl) (fun W => by go_simp <;> with_reducible rfl) ?_; simp only [nP]))
  iterate 2 ((refine plan_skip rfl ?_; simp only [nP]))
  refine pR rfl (fun W => by go_simp <;> with_reducible rfl) ?_; simp only [nP]; refine pA _ rfl rfl ?_; simp only [nP, nE]; refine plan_nil ?_; simp only [tailL, List.filterMap_nil]; clear fM; clear heq; by_cases k4 : s.kind = 4
  · skip
    have fM := HM.out.fa; go_wp2_with fail; all_goals clear fM
    go_ret; exact ⟨rfl, HM.out.extTo⟩
  by_cases k9 : s.kind = 9
  · skip
    have fM := HM.out.fa; go_wp2_with fail; all_goals clear fM
    go_ret; exact ⟨rfl, HM.out.extTo⟩
  have fM := HM.out.fa; go_wp2_with fail; all_goals clear fM
  go_ret; exact ⟨rfl, HM.out.extTo⟩
 have heq := HEQ.out; rw [decide_eq_true hlo] at heq; have HLE := Hd hlo; clear hlo; by_cases b0 : 0 ≤ s.member
 case neg =>
  obtain rfl : q = false := by rw [← HQ.out]; exact bnd_not (fun h => b0 h.1)
  have d0 : decide (0 ≤ s.member) = false := decide_eq_false b0; clear b0; have fM := HM.out.fa; have hE0 : Keeps NoB w1 w1.drew := (Keeps.refl _ _).drew; refine rgE qRight0 [7, 14, 19, 24, 29, 34, 39, 44] [9] [] ?_ (hp := (plan3 [0, 1, 3, 7, 15, 31, 63, 127, 127, 383, 1023, 2047, 4095, 8191, 16383, 32767, 65535, 131071, 262143, 524287, 1048575, 2097151, 4194303, 8388607, 16777215, 33554431, 67108863, 134217727, 268435455, 536870911, 1073741823, 2147483647, 4294967295, 8589934591, 17179869183, 34359738367, 68719476735, 137438953471, 274877906943, 549755813887, 1099511627775, 2199023255551, 4398046511103, 8796093022207, 17592186044415, 35184372088831, 70368744177663, 140737488355327, 281474976710655] (by kernel_rfl) rfl (by kernel_rfl))); simp only [qRight0, planL, nL]; iterate 9 (first | (refine pM _ rfl rfl ?_; simp only [nP, nE]) | (refine pR (by rfl) (fun W => by go_simp <;> with_reducible rfl) ?_; simp only [nP]) | (refine pX (by rfl) (by go_simp <;> with_reducible rfl) ?_; simp only [nP]) | (refine pL (by rfl) (fun W => by go_simp <;> with_reducible rfl) ?_; simp only [nP]))
  refine plan_does rfl (fun K hK => ?_); go_wp2_with fail; refine (HLO.out ⟨K12.out.1, K12.out.2⟩ _).mono ?_; rintro e w2 ⟨rfl, hU⟩; have hE2 := hE0.ext hU; replace HM := Hd (HM.out.ext hE2); clear hU; refine hK _ _ ⟨ClsE.of (by assumption), ?_⟩; clear hK K; try simp only [nP]
  iterate 35 (first | (refine plan_skip rfl ?_; simp only [nP]) | (refine pM _ rfl rfl ?_; simp only [nP, nE]) | (refine pR (by rfl) (fun W => by go_simp <;> with_reducible rfl) ?_; simp only [nP]) | (refine pL (by rfl) (fun W => by go_simp <;> with_reducible rfl) ?_; simp only [nP]))
  iterate 2 ((refine plan_skip rfl ?_; simp only [nP]))
  refine pR rfl (fun W => by go_simp <;> with_reducible rfl) ?_; simp only [nP]; refine pA _ rfl rfl ?_; simp only [nP, nE]; refine plan_nil ?_; simp only [tailL, List.filterMap_nil]; clear fM; clear heq; by_cases k4 : s.kind = 4
  · skip
    have fM := HM.out.fa; go_wp2_with fail; all_goals clear fM
    go_ret; exact ⟨rfl, HM.out.extTo⟩
  by_cases k9 : s.kind = 9
  · skip
    have fM := HM.out.fa; go_wp2_with fail; all_goals clear fM
    go_ret; exact ⟨rfl, HM.out.extTo⟩
  have fM := HM.out.fa; go_wp2_with fail; all_goals clear fM
  go_ret; exact ⟨rfl, HM.out.extTo⟩
 by_cases b1 : s.member < 16
 case neg =>
  obtain rfl : q = false := by rw [← HQ.out]; exact bnd_not (fun h => b1 h.2.1)
  have d1 : decide (s.member < 16) = false := decide_eq_false b1; clear b1; have fM := HM.out.fa; have hE0 : Keeps NoB w1 w1.drew := (Keeps.refl _ _).drew; refine rgE qRight0 [7, 14, 19, 24, 29, 34, 39, 44] [9] [] ?_ (hp := (plan3 [0, 1, 3, 7, 15, 31, 63, 127, 127, 383, 1023, 2047, 4095, 8191, 16383, 32767, 65535, 131071, 262143, 524287, 1048575, 2097151, 4194303, 8388607, 16777215, 33554431, 67108863, 134217727, 268435455, 536870911, 1073741823, 2147483647, 4294967295, 8589934591, 17179869183, 34359738367, 68719476735, 137438953471, 274877906943, 549755813887, 1099511627775, 2199023255551, 4398046511103, 8796093022207, 17592186044415, 35184372088831, 70368744177663, 140737488355327, 281474976710655] (by kernel_rfl) rfl (by kernel_rfl))); simp only [qRight0, planL, nL]; iterate 9 (first | (refine pM _ rfl rfl ?_; simp only [nP, nE]) | (refine pR (by rfl) (fun W => by go_simp <;> with_reducible rfl) ?_; simp only [nP]) | (refine pX (by rfl) (by go_simp <;> with_reducible rfl) ?_; simp only [nP]) | (refine pL (by rfl) (fun W => by go_simp <;> with_reducible rfl) ?_; simp only [nP]))
  refine plan_does rfl (fun K hK => ?_); go_wp2_with fail; refine (HLO.out ⟨K12.out.1, K12.out.2⟩ _).mono ?_; rintro e w2 ⟨rfl, hU⟩; have hE2 := hE0.ext hU; replace HM := Hd (HM.out.ext hE2); clear hU; refine hK _ _ ⟨ClsE.of (by assumption), ?_⟩; clear hK K; try simp only [nP]
  iterate 35 (first | (refine plan_skip rfl ?_; simp only [nP]) | (refine pM _ rfl rfl ?_; simp only [nP, nE]) | (refine pR (by rfl) (fun W => by go_simp <;> with_reducible rfl) ?_; simp only [nP]) | (refine pL (by rfl) (fun W => by go_simp <;> with_reducible rfl) ?_; simp only [nP]))
  iterate 2 ((refine plan_skip rfl ?_; simp only [nP]))
  refine pR rfl (fun W => by go_simp <;> with_reducible rfl) ?_; simp only [nP]; refine pA _ rfl rfl ?_; simp only [nP, nE]; refine plan_nil ?_; simp only [tailL, List.filterMap_nil]; clear fM; clear heq; by_cases k4 : s.kind = 4
  · skip
    have fM := HM.out.fa; go_wp2_with fail; all_goals clear fM
    go_ret; exact ⟨rfl, HM.out.extTo⟩
  by_cases k9 : s.kind = 9
  · skip
    have fM := HM.out.fa; go_wp2_with fail; all_goals clear fM
    go_ret; exact ⟨rfl, HM.out.extTo⟩
  have fM := HM.out.fa; go_wp2_with fail; all_goals clear fM
  go_ret; exact ⟨rfl, HM.out.extTo⟩
 by_cases b2 : 0 ≤ s.number
 case neg =>
  obtain rfl : q = false := by rw [← HQ.out]; exact bnd_not (fun h => b2 h.2.2.1)
  have d2 : decide (0 ≤ s.number) = false := decide_eq_false b2; clear b2; have fM := HM.out.fa; have hE0 : Keeps NoB w1 w1.drew := (Keeps.refl _ _).drew; refine rgE qRight0 [7, 14, 19, 24, 29, 34, 39, 44] [9] [] ?_ (hp := (plan3 [0, 1, 3, 7, 15, 31, 63, 127, 127, 383, 1023, 2047, 4095, 8191, 16383, 32767, 65535, 131071, 262143, 524287, 1048575, 2097151, 4194303, 8388607, 16777215, 33554431, 67108863, 134217727, 268435455, 536870911, 1073741823, 2147483647, 4294967295, 8589934591, 17179869183, 34359738367, 68719476735, 137438953471, 274877906943, 549755813887, 1099511627775, 2199023255551, 4398046511103, 8796093022207, 17592186044415, 35184372088831, 70368744177663, 140737488355327, 281474976710655] (by kernel_rfl) rfl (by kernel_rfl))); simp only [qRight0, planL, nL]; iterate 9 (first | (refine pM _ rfl rfl ?_; simp only [nP, nE]) | (refine pR (by rfl) (fun W => by go_simp <;> with_reducible rfl) ?_; simp only [nP]) | (refine pX (by rfl) (by go_simp <;> with_reducible rfl) ?_; simp only [nP]) | (refine pL (by rfl) (fun W => by go_simp <;> with_reducible rfl) ?_; simp only [nP]))
  refine plan_does rfl (fun K hK => ?_); go_wp2_with fail; refine (HLO.out ⟨K12.out.1, K12.out.2⟩ _).mono ?_; rintro e w2 ⟨rfl, hU⟩; have hE2 := hE0.ext hU; replace HM := Hd (HM.out.ext hE2); clear hU; refine hK _ _ ⟨ClsE.of (by assumption), ?_⟩; clear hK K; try simp only [nP]
  iterate 35 (first | (refine plan_skip rfl ?_; simp only [nP]) | (refine pM _ rfl rfl ?_; simp only [nP, nE]) | (refine pR (by rfl) (fun W => by go_simp <;> with_reducible rfl) ?_; simp only [nP]) | (refine pL (by rfl) (fun W => by go_simp <;> with_reducible rfl) ?_; simp only [nP]))
  iterate 2 ((refine plan_skip rfl ?_; simp only [nP]))
  refine pR rfl (fun W => by go_simp <;> with_reducible rfl) ?_; simp only [nP]; refine pA _ rfl rfl ?_; simp only [nP, nE]; refine plan_nil ?_; simp only [tailL, List.filterMap_nil]; clear fM; clear heq; by_cases k4 : s.kind = 4
  · skip
    have fM := HM.out.fa; go_wp2_with fail; all_goals clear fM
    go_ret; exact ⟨rfl, HM.out.extTo⟩
  by_cases k9 : s.kind = 9
  · skip
    have fM := HM.out.fa; go_wp2_with fail; all_goals clear fM
    go_ret; exact ⟨rfl, HM.out.extTo⟩
  have fM := HM.out.fa; go_wp2_with fail; all_goals clear fM
  go_ret; exact ⟨rfl, HM.out.extTo⟩
 by_cases b3 : s.number ≤ 2147483647
 case neg =>
  obtain rfl : q = false := by rw [← HQ.out]; exact bnd_not (fun h => b3 h.2.2.2.1)
  have d3 : decide (s.number ≤ 2147483647) = false := decide_eq_false b3; clear b3; have fM := HM.out.fa; have hE0 : Keeps NoB w1 w1.drew := (Keeps.refl _ _).drew; refine rgE qRight0 [7, 14, 19, 24, 29, 34, 39, 44] [9] [] ?_ (hp := (plan3 [0, 1, 3, 7, 15, 31, 63, 127, 127, 383, 1023, 2047, 4095, 8191, 16383, 32767, 65535, 131071, 262143, 524287, 1048575, 2097151, 4194303, 8388607, 16777215, 33554431, 67108863, 134217727, 268435455, 536870911, 1073741823, 2147483647, 4294967295, 8589934591, 17179869183, 34359738367, 68719476735, 137438953471, 274877906943, 549755813887, 1099511627775, 2199023255551, 4398046511103, 8796093022207, 17592186044415, 35184372088831, 70368744177663, 140737488355327, 281474976710655] (by kernel_rfl) rfl (by kernel_rfl))); simp only [qRight0, planL, nL]; iterate 9 (first | (refine pM _ rfl rfl ?_; simp only [nP, nE]) | (refine pR (by rfl) (fun W => by go_simp <;> with_reducible rfl) ?_; simp only [nP]) | (refine pX (by rfl) (by go_simp <;> with_reducible rfl) ?_; simp only [nP]) | (refine pL (by rfl) (fun W => by go_simp <;> with_reducible rfl) ?_; simp only [nP]))
  refine plan_does rfl (fun K hK => ?_); go_wp2_with fail; refine (HLO.out ⟨K12.out.1, K12.out.2⟩ _).mono ?_; rintro e w2 ⟨rfl, hU⟩; have hE2 := hE0.ext hU; replace HM := Hd (HM.out.ext hE2); clear hU; refine hK _ _ ⟨ClsE.of (by assumption), ?_⟩; clear hK K; try simp only [nP]
  iterate 35 (first | (refine plan_skip rfl ?_; simp only [nP]) | (refine pM _ rfl rfl ?_; simp only [nP, nE]) | (refine pR (by rfl) (fun W => by go_simp <;> with_reducible rfl) ?_; simp only [nP]) | (refine pL (by rfl) (fun W => by go_simp <;> with_reducible rfl) ?_; simp only [nP]))
  iterate 2 ((refine plan_skip rfl ?_; simp only [nP]))
  refine pR rfl (fun W => by go_simp <;> with_reducible rfl) ?_; simp only [nP]; refine pA _ rfl rfl ?_; simp only [nP, nE]; refine plan_nil ?_; simp only [tailL, List.filterMap_nil]; clear fM; clear heq; by_cases k4 : s.kind = 4
  · skip
    have fM := HM.out.fa; go_wp2_with fail; all_goals clear fM
    go_ret; exact ⟨rfl, HM.out.extTo⟩
  by_cases k9 : s.kind = 9
  · skip
    have fM := HM.out.fa; go_wp2_with fail; all_goals clear fM
    go_ret; exact ⟨rfl, HM.out.extTo⟩
  have fM := HM.out.fa; go_wp2_with fail; all_goals clear fM
  go_ret; exact ⟨rfl, HM.out.extTo⟩
 by_cases b4 : 0 ≤ s.index
 case neg =>
  obtain rfl : q = false := by rw [← HQ.out]; exact bnd_not (fun h => b4 h.2.2.2.2.1)
  have d4 : decide (0 ≤ s.index) = false := decide_eq_false b4; clear b4; have fM := HM.out.fa; have hE0 : Keeps NoB w1 w1.drew := (Keeps.refl _ _).drew; refine rgE qRight0 [7, 14, 19, 24, 29, 34, 39, 44] [9] [] ?_ (hp := (plan3 [0, 1, 3, 7, 15, 31, 63, 127, 127, 383, 1023, 2047, 4095, 8191, 16383, 32767, 65535, 131071, 262143, 524287, 1048575, 2097151, 4194303, 8388607, 16777215, 33554431, 67108863, 134217727, 268435455, 536870911, 1073741823, 2147483647, 4294967295, 8589934591, 17179869183, 34359738367, 68719476735, 137438953471, 274877906943, 549755813887, 1099511627775, 2199023255551, 4398046511103, 8796093022207, 17592186044415, 35184372088831, 70368744177663, 140737488355327, 281474976710655] (by kernel_rfl) rfl (by kernel_rfl))); simp only [qRight0, planL, nL]; iterate 9 (first | (refine pM _ rfl rfl ?_; simp only [nP, nE]) | (refine pR (by rfl) (fun W => by go_simp <;> with_reducible rfl) ?_; simp only [nP]) | (refine pX (by rfl) (by go_simp <;> with_reducible rfl) ?_; simp only [nP]) | (refine pL (by rfl) (fun W => by go_simp <;> with_reducible rfl) ?_; simp only [nP]))
  refine plan_does rfl (fun K hK => ?_); go_wp2_with fail; refine (HLO.out ⟨K12.out.1, K12.out.2⟩ _).mono ?_; rintro e w2 ⟨rfl, hU⟩; have hE2 := hE0.ext hU; replace HM := Hd (HM.out.ext hE2); clear hU; refine hK _ _ ⟨ClsE.of (by assumption), ?_⟩; clear hK K; try simp only [nP]
  iterate 35 (first | (refine plan_skip rfl ?_; simp only [nP]) | (refine pM _ rfl rfl ?_; simp only [nP, nE]) | (refine pR (by rfl) (fun W => by go_simp <;> with_reducible rfl) ?_; simp only [nP]) | (refine pL (by rfl) (fun W => by go_simp <;> with_reducible rfl) ?_; simp only [nP]))
  iterate 2 ((refine plan_skip rfl ?_; simp only [nP]))
  refine pR rfl (fun W => by go_simp <;> with_reducible rfl) ?_; simp only [nP]; refine pA _ rfl rfl ?_; simp only [nP, nE]; refine plan_nil ?_; simp only [tailL, List.filterMap_nil]; clear fM; clear heq; by_cases k4 : s.kind = 4
  · skip
    have fM := HM.out.fa; go_wp2_with fail; all_goals clear fM
    go_ret; exact ⟨rfl, HM.out.extTo⟩
  by_cases k9 : s.kind = 9
  · skip
    have fM := HM.out.fa; go_wp2_with fail; all_goals clear fM
    go_ret; exact ⟨rfl, HM.out.extTo⟩
  have fM := HM.out.fa; go_wp2_with fail; all_goals clear fM
  go_ret; exact ⟨rfl, HM.out.extTo⟩
 by_cases b5 : s.index ≤ 2147483647
 case neg =>
  obtain rfl : q = false := by rw [← HQ.out]; exact bnd_not (fun h => b5 h.2.2.2.2.2.1)
  have d5 : decide (s.index ≤ 2147483647) = false := decide_eq_false b5; clear b5; have fM := HM.out.fa; have hE0 : Keeps NoB w1 w1.drew := (Keeps.refl _ _).drew; refine rgE qRight0 [7, 14, 19, 24, 29, 34, 39, 44] [9] [] ?_ (hp := (plan3 [0, 1, 3, 7, 15, 31, 63, 127, 127, 383, 1023, 2047, 4095, 8191, 16383, 32767, 65535, 131071, 262143, 524287, 1048575, 2097151, 4194303, 8388607, 16777215, 33554431, 67108863, 134217727, 268435455, 536870911, 1073741823, 2147483647, 4294967295, 8589934591, 17179869183, 34359738367, 68719476735, 137438953471, 274877906943, 549755813887, 1099511627775, 2199023255551, 4398046511103, 8796093022207, 17592186044415, 35184372088831, 70368744177663, 140737488355327, 281474976710655] (by kernel_rfl) rfl (by kernel_rfl))); simp only [qRight0, planL, nL]; iterate 9 (first | (refine pM _ rfl rfl ?_; simp only [nP, nE]) | (refine pR (by rfl) (fun W => by go_simp <;> with_reducible rfl) ?_; simp only [nP]) | (refine pX (by rfl) (by go_simp <;> with_reducible rfl) ?_; simp only [nP]) | (refine pL (by rfl) (fun W => by go_simp <;> with_reducible rfl) ?_; simp only [nP]))
  refine plan_does rfl (fun K hK => ?_); go_wp2_with fail; refine (HLO.out ⟨K12.out.1, K12.out.2⟩ _).mono ?_; rintro e w2 ⟨rfl, hU⟩; have hE2 := hE0.ext hU; replace HM := Hd (HM.out.ext hE2); clear hU; refine hK _ _ ⟨ClsE.of (by assumption), ?_⟩; clear hK K; try simp only [nP]
  iterate 35 (first | (refine plan_skip rfl ?_; simp only [nP]) | (refine pM _ rfl rfl ?_; simp only [nP, nE]) | (refine pR (by rfl) (fun W => by go_simp <;> with_reducible rfl) ?_; simp only [nP]) | (refine pL (by rfl) (fun W => by go_simp <;> with_reducible rfl) ?_; simp only [nP]))
  iterate 2 ((refine plan_skip rfl ?_; simp only [nP]))
  refine pR rfl (fun W => by go_simp <;> with_reducible rfl) ?_; simp only [nP]; refine pA _ rfl rfl ?_; simp only [nP, nE]; refine plan_nil ?_; simp only [tailL, List.filterMap_nil]; clear fM; clear heq; by_cases k4 : s.kind = 4
  · skip
    have fM := HM.out.fa; go_wp2_with fail; all_goals clear fM
    go_ret; exact ⟨rfl, HM.out.extTo⟩
  by_cases k9 : s.kind = 9
  · skip
    have fM := HM.out.fa; go_wp2_with fail; all_goals clear fM
    go_ret; exact ⟨rfl, HM.out.extTo⟩
  have fM := HM.out.fa; go_wp2_with fail; all_goals clear fM
  go_ret; exact ⟨rfl, HM.out.extTo⟩
 by_cases b6 : s.token.length ≤ 200
 case neg =>
  obtain rfl : q = false := by rw [← HQ.out]; exact bnd_not (fun h => b6 h.2.2.2.2.2.2)
  have d6 : decide (((bs s.token).size : Int) ≤ 200) = false := decide_eq_false (by rw [bs_size]; omega); clear b6; have fM := HM.out.fa; have hE0 : Keeps NoB w1 w1.drew := (Keeps.refl _ _).drew; refine rgE qRight0 [7, 14, 19, 24, 29, 34, 39, 44] [9] [] ?_ (hp := (plan3 [0, 1, 3, 7, 15, 31, 63, 127, 127, 383, 1023, 2047, 4095, 8191, 16383, 32767, 65535, 131071, 262143, 524287, 1048575, 2097151, 4194303, 8388607, 16777215, 33554431, 67108863, 134217727, 268435455, 536870911, 1073741823, 2147483647, 4294967295, 8589934591, 17179869183, 34359738367, 68719476735, 137438953471, 274877906943, 549755813887, 1099511627775, 2199023255551, 4398046511103, 8796093022207, 17592186044415, 35184372088831, 70368744177663, 140737488355327, 281474976710655] (by kernel_rfl) rfl (by kernel_rfl))); simp only [qRight0, planL, nL]; iterate 9 (first | (refine pM _ rfl rfl ?_; simp only [nP, nE]) | (refine pR (by rfl) (fun W => by go_simp <;> with_reducible rfl) ?_; simp only [nP]) | (refine pX (by rfl) (by go_simp <;> with_reducible rfl) ?_; simp only [nP]) | (refine pL (by rfl) (fun W => by go_simp <;> with_reducible rfl) ?_; simp only [nP]))
  refine plan_does rfl (fun K hK => ?_); go_wp2_with fail; refine (HLO.out ⟨K12.out.1, K12.out.2⟩ _).mono ?_; rintro e w2 ⟨rfl, hU⟩; have hE2 := hE0.ext hU; replace HM := Hd (HM.out.ext hE2); clear hU; refine hK _ _ ⟨ClsE.of (by assumption), ?_⟩; clear hK K; try simp only [nP]
  iterate 35 (first | (refine pM _ rfl rfl ?_; simp only [nP, nE]) | (refine pR (by rfl) (fun W => by go_simp <;> with_reducible rfl) ?_; simp only [nP]) | (refine pL (by rfl) (fun W => by go_simp <;> with_reducible rfl) ?_; simp only [nP]))
  iterate 2 ((refine pR rfl (fun W => by go_simp <;> with_reducible rfl) ?_; simp only [nP]))
  refine pR rfl (fun W => by go_simp <;> with_reducible rfl) ?_; simp only [nP]; refine pA _ rfl rfl ?_; simp only [nP, nE]; refine plan_nil ?_; simp only [tailL, List.filterMap_nil]; clear fM; clear heq; by_cases k4 : s.kind = 4
  · skip
    have fM := HM.out.fa; go_wp2_with fail; all_goals clear fM
    go_ret; exact ⟨rfl, HM.out.extTo⟩
  by_cases k9 : s.kind = 9
  · skip
    have fM := HM.out.fa; go_wp2_with fail; all_goals clear fM
    go_ret; exact ⟨rfl, HM.out.extTo⟩
  have fM := HM.out.fa; go_wp2_with fail; all_goals clear fM
  go_ret; exact ⟨rfl, HM.out.extTo⟩
 have d6 : decide (((bs s.token).size : Int) ≤ 200) = true := decide_eq_true (by rw [bs_size]; omega); have HBN := Hd ((bnd_iff s).2 ⟨b0, b1, b2, b3, b4, b5, b6⟩); clear b6; have HQ2 := Hd (show ownB s = q by rw [← HQ.out, decide_eq_true K12.out, decide_eq_true HLE.out, HBN.out]; rfl); have fM := HM.out.fa; have hE0 : Keeps NoB w1 w1.drew := (Keeps.refl _ _).drew; refine rgE qRight0 [7, 14, 19, 24, 29, 34, 39, 44] [9] [] ?_ (hp := (plan3 [0, 1, 3, 7, 15, 31, 63, 127, 127, 383, 1023, 2047, 4095, 8191, 16383, 32767, 65535, 131071, 262143, 524287, 1048575, 2097151, 4194303, 8388607, 16777215, 33554431, 67108863, 134217727, 268435455, 536870911, 1073741823, 2147483647, 4294967295, 8589934591, 17179869183, 34359738367, 68719476735, 137438953471, 274877906943, 549755813887, 1099511627775, 2199023255551, 4398046511103, 8796093022207, 17592186044415, 35184372088831, 70368744177663, 140737488355327, 281474976710655] (by kernel_rfl) rfl (by kernel_rfl))); simp only [qRight0, planL, nL]; iterate 9 (first | (refine pM _ rfl rfl ?_; simp only [nP, nE]) | (refine pR (by rfl) (fun W => by go_simp <;> with_reducible rfl) ?_; simp only [nP]) | (refine pX (by rfl) (by go_simp <;> with_reducible rfl) ?_; simp only [nP]) | (refine pL (by rfl) (fun W => by go_simp <;> with_reducible rfl) ?_; simp only [nP]))
 refine plan_does rfl (fun K hK => ?_); go_wp2_with fail; refine (HLO.out ⟨K12.out.1, K12.out.2⟩ _).mono ?_; rintro e w2 ⟨rfl, hU⟩; have hE2 := hE0.ext hU; replace HM := Hd (HM.out.ext hE2); clear hU; refine hK _ _ ⟨ClsE.of (by assumption), ?_⟩; clear hK K; try simp only [nP]
 iterate 35 (first | (refine pM _ rfl rfl ?_; simp only [nP, nE]) | (refine pR (by rfl) (fun W => by go_simp <;> with_reducible rfl) ?_; simp only [nP]) | (refine pL (by rfl) (fun W => by go_simp <;> with_reducible rfl) ?_; simp only [nP]))
 iterate 2 ((refine pR rfl (fun W => by go_simp <;> with_reducible rfl) ?_; simp only [nP]))
 refine pR rfl (fun W => by go_simp <;> with_reducible rfl) ?_; simp only [nP]; refine pA _ rfl rfl ?_; simp only [nP, nE]; refine plan_nil ?_; simp only [tailL, List.filterMap_nil]; clear fM; clear heq b0 b1 b2 b3 b4 b5 d6; by_cases k4 : s.kind = 4
 case pos =>
  have hown : ownB s = (decide (1 ≤ s.number) && (chk s.text == 0)) := by unfold ownB; rw [if_pos k4]
  have HO := Hd hown; clear hown; by_cases n1 : 1 ≤ s.number
  case neg =>
   obtain rfl : q = false := by rw [← HQ2.out, HO.out, decide_eq_false n1]; rfl
   have d1 : decide (1 ≤ s.number) = false := decide_eq_false n1; clear n1; have fM := HM.out.fa; go_wp2_with fail; all_goals clear fM
   go_ret; exact ⟨rfl, HM.out.extTo⟩
  have HN := Hd n1; have fM := HM.out.fa; go_wp2_with fail; all_goals clear fM
  refine (check03_any w2 s.text HS.out.1).mono ?_; rintro e w3 ⟨rfl, hE2⟩; replace HM := Hd (HM.out.ext hE2); clear hE2; by_cases hc : chk s.text = 0
  · obtain rfl : q = true := by rw [← HQ2.out, HO.out, decide_eq_true HN.out, hc]; rfl
    rw [hc]; clear hc; have fM := HM.out.fa; go_wp2_with fail; all_goals clear fM
    go_ret; exact ⟨rfl, HM.out.extTo⟩
  · obtain rfl : q = false := by rw [← HQ2.out, HO.out]; simp [hc]
    have d1 : ((chk s.text : Int) == 0) = false := by simpa using hc
    clear hc; have fM := HM.out.fa; go_wp2_with fail; all_goals clear fM
    go_ret; exact ⟨rfl, HM.out.extTo⟩
 by_cases k9 : s.kind = 9
 case pos =>
  have hown : ownB s = (enB s.e && decide (s.e.kind ≠ 1)) := by unfold ownB; rw [if_neg k4, if_pos k9]
  have HO := Hd hown; clear hown; have fM := HM.out.fa; go_wp2_with fail; all_goals clear fM
  refine (entry14_any w2 s.e HS.out.2.1).mono ?_; rintro e w3 ⟨rfl, hE2⟩; replace HM := Hd (HM.out.ext hE2); clear hE2; cases he : enB s.e
  · obtain rfl : q = false := by rw [← HQ2.out, HO.out, he]; rfl
    clear he; have fM := HM.out.fa; go_wp2_with fail; all_goals clear fM
    go_ret; exact ⟨rfl, HM.out.extTo⟩
  · have HEN := Hd he
    clear he; by_cases h1 : s.e.kind = 1
    · obtain rfl : q = false := by rw [← HQ2.out, HO.out, h1]; simp
      have fM := HM.out.fa; go_wp2_with fail; all_goals clear fM
      go_ret; exact ⟨rfl, HM.out.extTo⟩
    · obtain rfl : q = true := by rw [← HQ2.out, HO.out, HEN.out]; simpa using h1
      have d1 : (s.e.kind != 1) = true := by simpa using h1
      clear h1; have fM := HM.out.fa; go_wp2_with fail; all_goals clear fM
      go_ret; exact ⟨rfl, HM.out.extTo⟩
 obtain rfl : q = true := by rw [← HQ2.out]; unfold ownB; rw [if_neg k4, if_neg k9]
 have fM := HM.out.fa; go_wp2_with fail; all_goals clear fM
 go_ret; exact ⟨rfl, HM.out.extTo⟩
end Go.Proofs.YtoadjbgpfihoiaaGreatDoor
