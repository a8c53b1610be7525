/- Texts DV, DW, SAct, one behind the other. Conditions: as each says. -/
import Derived.Test.YtoadjbgpfihoiaaGreatDoorPlZR
set_option linter.unusedVariables false
set_option linter.unusedSimpArgs false
set_option maxHeartbeats 8000000
set_option maxRecDepth 100000
namespace Go.Proofs.YtoadjbgpfihoiaaGreatDoor
open Go.RowKit
theorem dbeside_any {A : Nat → Prop} (W w : World) (hT : Tabs W) (hE : Ext W w) (v : Value) (s : Ss) (n : Nat) (hok : OkSs s n) (hn : n ≤ 1000000) (x : Sd) (hl : x.text.length ≤ 300 ∧ x.token.length ≤ 300 ∧ x.e.text.length ≤ 300) (h : DocAt w A v s) (hA : ∀ k, A k → k < w.heap.size) :
 Calls Tryz.prog 82 #[v, x.v] w (BesPost w A s x) := by
 by_cases h1 : x.kind = 10
 · exact dbes_10 W w hT hE v s n hok hn x h1 hl h hA
 · by_cases h2 : x.kind = 11
   · exact dbes_11 W w hT hE v s n hok hn x h2 hl h hA
   · exact dbes_other w v s x (by unfold besK; simp [h1, h2]) h
def DTakePost (w : World) (A : Nat → Prop) (s : Ss) (r : Ending) (w' : World) : Prop := ∃ v' vb, r = .returned (.tuple #[v', vb, .bool s.take.2.isSome]) ∧ DocPost w A s.take.1 v' w' ∧ Bytes w' (fun k => A k ∨ (w.heap.size ≤ k ∧ k < w'.heap.size)) vb (s.take.2.getD [])
theorem dtake_closed {A : Nat → Prop} (w : World) (v : Value) (s : Ss) (hc : s.closed = true) (h : DocAt w A v s) :
 Calls Tryz.prog 83 #[v] w (DTakePost w A s) := by
 obtain ⟨a, c, p, q, rfl, h1, h2⟩ := h; have HM := Hd (Mem.start0 w); have H1 := Hd h1; have H2 := Hd h2; clear h1 h2; have ht : s.take = ({ s with bye := none }, s.bye) := by unfold Ss.take; rw [if_pos hc]
 unfold DTakePost; rw [ht]; dsimp only; obtain ⟨sm, sn, snx, ss, sa, sh, sl, sc, sw, sr, sby⟩ := s; dsimp only at hc H1 H2 ⊢; subst hc; clear ht; go_enter Tryz.func83, Tryz.ntmps83
 have fM := HM.out.fa; go_wp2_with ((first | ((with_reducible refine at_box 73 _ rfl ?_); refine boW 73 _ rfl rfl rfl HM.out ?_; intro w9 n9 M) | ((with_reducible refine at_alloc 73 rfl ?_); refine alW 73 rfl rfl (zeroDS _) HM.out ?_; intro w9 n9 M)); replace HM := Hd M; clear M fM; have fM := HM.out.fa); all_goals clear fM
 refine nxt HM fun w1 M => ?_
 replace HM := M; clear M; have fM := HM.out.fa; have hE0 : Keeps NoB w1 w1.drew := (Keeps.refl _ _).drew; refine rgE [(0, 0), (3, 1), (0, 2), (3, 3), (0, 4), (0, 5)] [] [] [] ?_; simp only [planL, nL]; iterate 6 (first | (refine pA _ rfl rfl ?_; simp only [nP, nE]) | (refine pR (by rfl) (fun W => by go_simp <;> with_reducible rfl) ?_; simp only [nP]) | (refine pX (by rfl) (by go_simp <;> with_reducible rfl) ?_; simp only [nP]))
 refine plan_nil ?_; simp only [tailL, List.filterMap_nil]; go_wp2_with (first | ((with_reducible refine at_load 73 _ rfl ?_); refine ldW 73 _ rfl rfl rfl HM.out Tryz.underlying73 rfl infoDS ?_) | (((with_reducible refine at_store 73 _ _ rfl ?_); refine stW 73 _ _ rfl rfl rfl rfl HM.out infoDS ?_; intro w9 M); replace HM := Hd M; clear M fM; have fM := HM.out.fa)); clear fM; have fM := HM.out.fa; go_wp2_with fail; all_goals clear fM
 refine nxt HM fun wz M => ?_
 replace HM := M; clear M; refine bodyPost_ret (results_ctt rfl _ rfl (lvW 73 HM.out Tryz.underlying73 rfl infoDS)) rfl ?_; exact ⟨_, _, rfl, ⟨⟨_, _, _, _, rfl, (H1.out.itExt HM.out.extTo).itMono (fun k h => .inl h), bytes_nil0⟩, HM.out.extTo⟩, (H2.out.ext HM.out.extTo).mono (fun k h => .inl h)⟩
theorem dtake_none {A : Nat → Prop} (w : World) (v : Value) (s : Ss) (hc : s.closed = false) (hi : s.ring.items = []) (h : DocAt w A v s) :
 Calls Tryz.prog 83 #[v] w (DTakePost w A s) := by
 obtain ⟨a, c, p, q, rfl, h1, h2⟩ := h; have HM := Hd (Mem.start0 w); have H1 := Hd h1; have H2 := Hd h2; clear h1 h2; have ht : s.take = (s, none) := by unfold Ss.take; rw [if_neg (by rw [hc]; decide), if_neg (by unfold Ss.waits; rw [hi]; simp), hi]
 unfold DTakePost; rw [ht]; dsimp only; obtain ⟨sm, sn, snx, ss, sa, sh, sl, sc, sw, ⟨rm, rl, ri⟩, sby⟩ := s; dsimp only at hc hi H1 H2 ⊢; subst hc hi; clear ht; go_enter Tryz.func83, Tryz.ntmps83
 have fM := HM.out.fa; go_wp2_with ((first | ((with_reducible refine at_box 73 _ rfl ?_); refine boW 73 _ rfl rfl rfl HM.out ?_; intro w9 n9 M) | ((with_reducible refine at_alloc 73 rfl ?_); refine alW 73 rfl rfl (zeroDS _) HM.out ?_; intro w9 n9 M)); replace HM := Hd M; clear M fM; have fM := HM.out.fa); all_goals clear fM
 refine nxt HM fun w1 M => ?_
 replace HM := M; clear M; refine (rtake_none w1 _ rm rl ⟨_, rfl, H1.out.itExt HM.out.extTo⟩).mono ?_; rintro r w2 ⟨rfl, hE⟩; replace HM := Hd (HM.out.ext hE); clear hE; have fM := HM.out.fa; go_wp2_with (first | ((with_reducible refine at_load 73 _ rfl ?_); refine ldW 73 _ rfl rfl rfl HM.out Tryz.underlying73 rfl infoDS ?_) | (((with_reducible refine at_store 73 _ _ rfl ?_); refine stW 73 _ _ rfl rfl rfl rfl HM.out infoDS ?_; intro w9 M); replace HM := Hd M; clear M fM; have fM := HM.out.fa)); all_goals clear fM
 refine nxt HM fun wz M => ?_
 replace HM := M; clear M; refine bodyPost_ret (results_ctt rfl _ rfl (lvW 73 HM.out Tryz.underlying73 rfl infoDS)) rfl ?_; exact ⟨_, _, rfl, ⟨⟨_, _, _, _, rfl, (H1.out.itExt HM.out.extTo).itMono (fun k h => .inl h), (H2.out.ext HM.out.extTo).mono (fun k h => .inl h)⟩, HM.out.extTo⟩, bytes_nil0⟩
theorem dtake_waits {A : Nat → Prop} (w : World) (v : Value) (s : Ss) (n : Nat) (hok : OkSs s n) (hc : s.closed = false) (hw : s.waits = true) (h : DocAt w A v s) :
 Calls Tryz.prog 83 #[v] w (DTakePost w A s) := by
 obtain ⟨a, c, p, q, rfl, h1, h2⟩ := h; have HM := Hd (Mem.start0 w); have H1 := Hd h1; have H2 := Hd h2; clear h1 h2; have ht : s.take = (s, none) := by unfold Ss.take; rw [if_neg (by rw [hc]; decide), if_pos hw]
 unfold DTakePost; rw [ht]; dsimp only; have hsa : 0 ≤ s.acked ∧ s.acked ≤ s.sent ∧ s.sent ≤ 2147483648 := by have := hok.ack0; have := hok.sent0; have := hok.next0; have := hok.next1; omega
 have hml := hok.most; have hll := hok.len; clear ht hok; obtain ⟨sm, sn, snx, ss, sa, sh, sl, sc, sw, ⟨rm, rl, ri⟩, sby⟩ := s; dsimp only at hc hw hsa hml hll H1 H2 ⊢; subst hc; cases ri with
 | nil => unfold Ss.waits at hw; simp at hw
 | cons x r =>
   unfold Ss.waits at hw; simp only [Bool.and_eq_true, Bool.not_eq_true', decide_eq_true_eq] at hw; obtain ⟨hxs, hws⟩ := hw; obtain ⟨a', c', he, hat⟩ := H1.out.itAt; cases he
   obtain ⟨b, o, rfl, hlc, hAb, hia⟩ := hat 0 (by simp); have hc0 := hia.1; simp only [Nat.zero_mul, Nat.add_zero, List.getElem_cons_zero] at hc0; rw [hxs] at hc0; have HC0 := Hd hc0; have hw64 : wrap64 (ss - sa) = ss - sa := IntWalk.wrap64_in _ (by omega); have hbl := World.block_lt_of_cell? _ _ hc0; clear hat hia hc0; go_enter Tryz.func83, Tryz.ntmps83
   have fM := HM.out.fa; go_wp2_with (((with_reducible refine at_box 73 _ rfl ?_); refine boW 73 _ rfl rfl rfl HM.out ?_; intro w9 n9 M); replace HM := Hd M; clear M fM; have fM := HM.out.fa; refine standing ?_); all_goals clear fM
   refine ⟨?_⟩; have fM := HM.out.fa; go_wp2_with (((with_reducible refine at_alloc 73 rfl ?_); refine alW 73 rfl rfl (zeroDS _) HM.out ?_; intro w9 n9 M); replace HM := Hd M; clear M fM; have fM := HM.out.fa; refine standing ?_); all_goals clear fM
   refine nxt HM fun w1 M => ?_
   replace HM := M; clear M; have c0 := Ext.cell HM.out.extTo HC0.out; refine ⟨?_⟩; have fM := HM.out.fa; go_wp2_with (first | ((with_reducible refine at_load 73 _ rfl ?_); refine ldW 73 _ rfl rfl rfl HM.out Tryz.underlying73 rfl infoDS ?_) | (((with_reducible refine at_store 73 _ _ rfl ?_); refine stW 73 _ _ rfl rfl rfl rfl HM.out infoDS ?_; intro w9 M); replace HM := Hd M; clear M fM; have fM := HM.out.fa)); all_goals clear fM
   refine nxt HM fun wz M => ?_
   replace HM := M; clear M; refine bodyPost_ret (results_ctt rfl _ rfl (lvW 73 HM.out Tryz.underlying73 rfl infoDS)) rfl ?_; exact ⟨_, _, rfl, ⟨⟨_, _, _, _, rfl, (H1.out.itExt HM.out.extTo).itMono (fun k h => .inl h), (H2.out.ext HM.out.extTo).mono (fun k h => .inl h)⟩, HM.out.extTo⟩, bytes_nil0⟩
theorem dtake_some {A : Nat → Prop} (w : World) (v : Value) (s : Ss) (n : Nat) (hok : OkSs s n) (hc : s.closed = false) (hw : s.waits = false) (x : It) (r : List It) (hi : s.ring.items = x :: r) (h : DocAt w A v s) (hA : ∀ k, A k → k < w.heap.size) :
 Calls Tryz.prog 83 #[v] w (DTakePost w A s) := by
 obtain ⟨a, c, p, q, rfl, h1, h2⟩ := h; have HM := Hd (Mem.start0 w); have H1 := Hd h1; have H2 := Hd h2; clear h1 h2; have HA := Hd hA; have ht : s.take = ({ s with ring := { s.ring with items := r }, sent := s.sent + if x.side then 0 else 1 }, some x.bytes) := by unfold Ss.take; rw [if_neg (by rw [hc]; decide), if_neg (by rw [hw]; decide), hi]
 unfold DTakePost; rw [ht]; dsimp only; have hsa : 0 ≤ s.acked ∧ s.acked ≤ s.sent ∧ s.sent ≤ 2147483648 := by have := hok.ack0; have := hok.sent0; have := hok.next0; have := hok.next1; omega
 have hml := hok.most; have hll := hok.len; clear ht hok hA; obtain ⟨sm, sn, snx, ss, sa, sh, sl, sc, sw, ⟨rm, rl, ri⟩, sby⟩ := s; dsimp only at hc hw hi hsa hml hll H1 H2 ⊢; subst hc hi; unfold Ss.waits at hw; dsimp only at hw; obtain ⟨a', c', he, hat⟩ := H1.out.itAt; cases he
 obtain ⟨b, o, rfl, hlc, hAb, hia⟩ := hat 0 (by simp); have hc0 := hia.1; simp only [Nat.zero_mul, Nat.add_zero, List.getElem_cons_zero] at hc0; have hbl := World.block_lt_of_cell? _ _ hc0; obtain ⟨xs, xk, xb⟩ := x; dsimp only at hc0 hw ⊢; have hw64 : wrap64 (ss - sa) = ss - sa := IntWalk.wrap64_in _ (by omega); cases xs with
 | true =>
   rw [if_pos rfl, Int.add_zero]; have HC0 := Hd hc0; clear hat hia hc0 hw; go_enter Tryz.func83, Tryz.ntmps83
   have fM := HM.out.fa; go_wp2_with (((with_reducible refine at_box 73 _ rfl ?_); refine boW 73 _ rfl rfl rfl HM.out ?_; intro w9 n9 M); replace HM := Hd M; clear M fM; have fM := HM.out.fa; refine standing ?_); all_goals clear fM
   rename Nat => kt
   refine ⟨?_⟩; have fM := HM.out.fa; go_wp2_with (((with_reducible refine at_alloc 73 rfl ?_); refine alW 73 rfl rfl (zeroDS _) HM.out ?_; intro w9 n9 M); replace HM := Hd M; clear M fM; have fM := HM.out.fa; refine standing ?_); all_goals clear fM
   rename Nat => kr
   refine nxt HM fun w1 M => ?_
   replace HM := M; clear M; have c0 := Ext.cell HM.out.extTo HC0.out; refine ⟨?_⟩; have fM := HM.out.fa; go_wp2_with fail; all_goals clear fM
   clear c0; refine nxt HM fun w2 M => ?_
   replace HM := M; clear M; refine (rtake_some w2 _ rm rl _ r ⟨_, rfl, H1.out.itExt HM.out.extTo⟩ (by simp at hll; omega) (fun k hk => Nat.lt_of_lt_of_le (HA.out k hk) HM.out.extTo.size)).mono ?_; rintro e w3 ⟨v3, vx, rfl, ⟨sv, rfl, hsl⟩, ⟨bv, rfl, hbv⟩, hE⟩; obtain ⟨a7, c7, rfl, -⟩ := hsl.itAt; obtain ⟨ab, cb, rfl⟩ := hbv.len; have hsz := HM.out.extTo.size; obtain ⟨G, hm7, hG⟩ := HM.out.rebase hE; have H7 := Hd hsl; have HBV := Hd hbv; have HG := Hd hG; have HEW := Hd (HM.out.extTo.ext hE); have HSZ := Hd hsz; replace HM := Hd hm7; clear hE hsl hbv hsz hm7 hG; have fM := HM.out.fa; go_wp2_with fail; all_goals clear fM
   refine nxt HM fun w4 M => ?_
   replace HM := M; clear M; have fM := HM.out.fa; have hE0 : Keeps (fun k => k = kr) w4 w4.drew := (Keeps.refl _ _).drew; refine rgK (fun k => k = kr) [(3, 0), (0, 1), (1, 2), (2, 3), (0, 4), (0, 5)] [2] [3] [] ?_; simp only [planL, nL]; refine pXW 73 _ rfl rfl rfl HM.out Tryz.underlying73 rfl infoDS ?_; simp only [nP]; refine pR rfl (fun W => by go_simp <;> with_reducible rfl) ?_; simp only [nP]; refine pK rfl (fun W => by go_simp <;> with_reducible rfl) ?_; simp only [nP]; refine plan_does rfl (fun K hK => ?_); refine osW 73 _ _ rfl rfl rfl HM.out infoDS (wr := w4) (S := (fun k => k = kr)) (by repeat (first | assumption | exact Keeps.refl _ _ | with_reducible apply Keeps.drew | with_reducible apply Keeps.alloc)) (by first | rfl | exact .inl rfl | exact .inr rfl | exact Mem.out2 HM.out) fun w9 M hE9 => ?_
   replace HM := Hd M; clear M; refine hK _ _ ⟨ClsK.of hE9, ?_⟩; clear hK K; try simp only [nP]
   refine pA _ rfl rfl ?_; simp only [nP, nE]; refine pA _ rfl rfl ?_; simp only [nP, Act.eval]; refine plan_nil ?_; simp only [tailL, List.filterMap_nil]; go_wp2_with fail; clear fM; refine nxt HM fun wz M => ?_
   replace HM := M; clear M; refine bodyPost_ret (results_ctt rfl _ rfl (lvW 73 HM.out Tryz.underlying73 rfl infoDS)) rfl ?_; exact ⟨_, _, rfl, ⟨⟨_, _, _, _, rfl, slv_rebase HA.out HSZ.out H7.out HM.out.keepsTo HG.out, byt_rebase HA.out HEW.out H2.out HM.out.keepsTo HG.out⟩, ext_rebase HEW.out HM.out.keepsTo HG.out⟩, (HBV.out.keeps HM.out.keepsTo fun k hk hg => by have := HG.out k hg; have := HA.out k hk; omega).mono fun k h => .inl h⟩
 | false =>
   rw [if_neg Bool.false_ne_true]; simp only [Bool.not_false, Bool.true_and, decide_eq_false_iff_not] at hw; have d1 : decide ((rm : Int) ≤ ss - sa) = false := decide_eq_false hw; have hw1 : wrap64 (ss + 1) = ss + 1 := IntWalk.wrap64_in _ (by omega); have HW1 := Hd hw1; have HC0 := Hd hc0; clear hat hia hc0 hw1; go_enter Tryz.func83, Tryz.ntmps83
   have fM := HM.out.fa; go_wp2_with (((with_reducible refine at_box 73 _ rfl ?_); refine boW 73 _ rfl rfl rfl HM.out ?_; intro w9 n9 M); replace HM := Hd M; clear M fM; have fM := HM.out.fa; refine standing ?_); all_goals clear fM
   rename Nat => kt
   refine ⟨?_⟩; have fM := HM.out.fa; go_wp2_with (((with_reducible refine at_alloc 73 rfl ?_); refine alW 73 rfl rfl (zeroDS _) HM.out ?_; intro w9 n9 M); replace HM := Hd M; clear M fM; have fM := HM.out.fa; refine standing ?_); all_goals clear fM
   rename Nat => kr
   refine nxt HM fun w1 M => ?_
   replace HM := M; clear M; have c0 := Ext.cell HM.out.extTo HC0.out; refine ⟨?_⟩; have fM := HM.out.fa; go_wp2_with fail; all_goals clear fM
   clear c0; refine nxt HM fun w2 M => ?_
   replace HM := M; clear M; refine (rtake_some w2 _ rm rl _ r ⟨_, rfl, H1.out.itExt HM.out.extTo⟩ (by simp at hll; omega) (fun k hk => Nat.lt_of_lt_of_le (HA.out k hk) HM.out.extTo.size)).mono ?_; rintro e w3 ⟨v3, vx, rfl, ⟨sv, rfl, hsl⟩, ⟨bv, rfl, hbv⟩, hE⟩; obtain ⟨a7, c7, rfl, -⟩ := hsl.itAt; obtain ⟨ab, cb, rfl⟩ := hbv.len; have hsz := HM.out.extTo.size; obtain ⟨G, hm7, hG⟩ := HM.out.rebase hE; have H7 := Hd hsl; have HBV := Hd hbv; have HG := Hd hG; have HEW := Hd (HM.out.extTo.ext hE); have HSZ := Hd hsz; replace HM := Hd hm7; clear hE hsl hbv hsz hm7 hG; have hw1 := HW1.out; have fM := HM.out.fa; go_wp2_with fail; all_goals clear fM
   refine nxt HM fun w4 M => ?_
   replace HM := M; clear M; have fM := HM.out.fa; have hE0 : Keeps (fun k => k = kr) w4 w4.drew := (Keeps.refl _ _).drew; refine rgK (fun k => k = kr) [(3, 0), (0, 1), (1, 2), (2, 3), (0, 4), (0, 5)] [2] [3] [] ?_; simp only [planL, nL]; refine pXW 73 _ rfl rfl rfl HM.out Tryz.underlying73 rfl infoDS ?_; simp only [nP]; refine pR rfl (fun W => by go_simp <;> with_reducible rfl) ?_; simp only [nP]; refine pK rfl (fun W => by go_simp <;> with_reducible rfl) ?_; simp only [nP]; refine plan_does rfl (fun K hK => ?_); refine osW 73 _ _ rfl rfl rfl HM.out infoDS (wr := w4) (S := (fun k => k = kr)) (by repeat (first | assumption | exact Keeps.refl _ _ | with_reducible apply Keeps.drew | with_reducible apply Keeps.alloc)) (by first | rfl | exact .inl rfl | exact .inr rfl | exact Mem.out2 HM.out) fun w9 M hE9 => ?_
   replace HM := Hd M; clear M; refine hK _ _ ⟨ClsK.of hE9, ?_⟩; clear hK K; try simp only [nP]
   refine pA _ rfl rfl ?_; simp only [nP, nE]; refine pA _ rfl rfl ?_; simp only [nP, Act.eval]; refine plan_nil ?_; simp only [tailL, List.filterMap_nil]; go_wp2_with fail; clear fM; refine nxt HM fun wz M => ?_
   replace HM := M; clear M; refine bodyPost_ret (results_ctt rfl _ rfl (lvW 73 HM.out Tryz.underlying73 rfl infoDS)) rfl ?_; exact ⟨_, _, rfl, ⟨⟨_, _, _, _, rfl, slv_rebase HA.out HSZ.out H7.out HM.out.keepsTo HG.out, byt_rebase HA.out HEW.out H2.out HM.out.keepsTo HG.out⟩, ext_rebase HEW.out HM.out.keepsTo HG.out⟩, (HBV.out.keeps HM.out.keepsTo fun k hk hg => by have := HG.out k hg; have := HA.out k hk; omega).mono fun k h => .inl h⟩
theorem dtake_any {A : Nat → Prop} (w : World) (v : Value) (s : Ss) (n : Nat) (hok : OkSs s n) (h : DocAt w A v s) (hA : ∀ k, A k → k < w.heap.size) :
 Calls Tryz.prog 83 #[v] w (DTakePost w A s) := by
 cases hc : s.closed with
 | true => exact dtake_closed w v s hc h
 | false =>
   cases hw : s.waits with
   | true => exact dtake_waits w v s n hok hc hw h
   | false =>
     cases hi : s.ring.items with
     | nil => exact dtake_none w v s hc hi h
     | cons x r => exact dtake_some w v s n hok hc hw x r hi h hA
theorem dnew_yes (w : World) (member number fr most wait now : Int) (h : newOk member number fr most wait now = true) :
 Calls Tryz.prog 24 #[.int .i64 member, .int .i64 number, .int .i64 fr, .int .i64 most, .int .i64 wait, .int .i64 now] w fun e w' => ∃ v, e = .returned (.tuple #[v, .int .i64 0]) ∧ DocAt w' NoB v (newS member number fr most.toNat wait now) ∧ Ext w w' := by
 unfold newOk farN at h; simp only [Bool.and_eq_true, decide_eq_true_eq] at h; obtain ⟨⟨⟨⟨⟨hm, h2⟩, h3⟩, h4⟩, h5⟩, h6⟩ := h; have H3 := Hd (decide_eq_true h3); have H4 := Hd (decide_eq_true h4); have H5 := Hd (decide_eq_true h5); have H6 := Hd (decide_eq_true h6); obtain ⟨m, rfl⟩ : ∃ m : Nat, most = m := ⟨most.toNat, by omega⟩; rw [Int.toNat_natCast]; have g1 : ¬ member < 0 := by omega
 have g2 : ¬ 15 < member := by omega
 clear h2 h3 h4 h5 h6; have HM := Hd (Mem.start0 w); go_enter Tryz.func24, Tryz.ntmps24
 have fM := HM.out.fa; go_wp2_with (((with_reducible refine at_alloc 73 rfl ?_); refine alW 73 rfl rfl (zeroDS _) HM.out ?_; intro w9 n9 M); replace HM := Hd M; clear M fM; have fM := HM.out.fa); all_goals clear fM
 refine nxt HM fun w1 M => ?_
 replace HM := M; clear M; refine (rnew_yes w1 m (by omega) (by omega)).mono ?_; rintro e w2 ⟨rfl, hE⟩; replace HM := Hd (HM.out.ext hE); clear hE; have fM := HM.out.fa; go_wp2_with fail; all_goals clear fM
 refine cret (within_any _ _ _ _) ?_; rw [H3.out]; have fM := HM.out.fa; go_wp2_with fail; all_goals clear fM
 refine cret (within_any _ _ _ _) ?_; rw [H4.out]; have fM := HM.out.fa; go_wp2_with fail; all_goals clear fM
 refine cret (within_any _ _ _ _) ?_; rw [H5.out]; have fM := HM.out.fa; go_wp2_with fail; all_goals clear fM
 refine cret (within_any _ _ _ _) ?_; rw [H6.out]; have fM := HM.out.fa; go_wp2_with (((with_reducible refine at_store 73 _ _ rfl ?_); refine stW 73 _ _ rfl rfl rfl rfl HM.out infoDS ?_; intro w9 M); replace HM := Hd M; clear M fM; have fM := HM.out.fa); all_goals clear fM
 refine nxt HM fun w3 M => ?_
 replace HM := M; clear M; refine bodyPost_ret (results_ct rfl _ rfl (lvW 73 HM.out Tryz.underlying73 rfl infoDS)) rfl ?_; exact ⟨_, rfl, ⟨none, 0, none, 0, rfl, .inl ⟨none, rfl, rfl⟩, bytes_nil0⟩, HM.out.extTo⟩
theorem snum_any (w : World) (n : Int) : Calls Tryz.prog 25 #[.int .i64 n] w fun e w' => e = .returned (.int .i64 n) ∧ w' = w := by
 go_enter Tryz.func25, Tryz.ntmps25
 go_wp2_with fail; go_ret; exact ⟨rfl, rfl⟩
def nearI (n : Int) : Int := max (-10) (min 100 n)
theorem near_le (n : Int) : -10 ≤ nearI n ∧ nearI n ≤ 100 := by unfold nearI; omega
theorem near_any (w : World) (n : Int) : Calls Tryz.prog 41 #[.int .i64 n] w fun e w' => e = .returned (.int .i64 (nearI n)) ∧ w' = w := by
 go_enter Tryz.func41, Tryz.ntmps41
 go_wp2_with fail; go_ret; exact ⟨rfl, rfl⟩
structure Sc where
 what : Int
 index : Int
 now : Int
 e : En
 token : List UInt8
 said : Sd
abbrev Sc.cells (x : Sc) : List Value := [.int .i64 x.what, .int .i64 x.index, .int .i64 x.now, .int .i64 x.e.kind, .int .i64 x.e.member, .int .i64 x.e.number, .string (bs x.e.text), .string (bs x.token), .int .i64 x.said.kind, .int .i64 x.said.member, .int .i64 x.said.number, .int .i64 x.said.index, .bool x.said.is, .string (bs x.said.text), .string (bs x.said.token), .int .i64 x.said.e.kind, .int .i64 x.said.e.member, .int .i64 x.said.e.number, .string (bs x.said.e.text)]
def Sc.v (x : Sc) : Value := .agg x.cells.toArray
structure OkSc (x : Sc) : Prop where
 ek : I64 x.e.kind
 sk : I64 x.said.kind
 sek : I64 x.said.e.kind
 now : I64 x.now
 index : I64 x.index
structure ShortSc (x : Sc) : Prop where
 e : x.e.text.length ≤ 300
 t : x.token.length ≤ 300
 s1 : x.said.text.length ≤ 300
 s2 : x.said.token.length ≤ 300
 s3 : x.said.e.text.length ≤ 300
def longS (x : Sc) : Bool := decide (300 < x.e.text.length) || decide (300 < x.token.length) || decide (300 < x.said.text.length) || decide (300 < x.said.token.length) || decide (300 < x.said.e.text.length)
theorem short_of {x : Sc} (h : longS x = false) : ShortSc x := by
 unfold longS at h; simp only [Bool.or_eq_false_iff, decide_eq_false_iff_not] at h; obtain ⟨⟨⟨⟨h1, h2⟩, h3⟩, h4⟩, h5⟩ := h; exact ⟨by omega, by omega, by omega, by omega, by omega⟩
def Ss.act (s : Ss) (x : Sc) : Ss :=
 if x.what = 0 then (s.offer (s.next + nearI x.index) x.e x.token).1
 else if x.what = 1 then (s.reach (s.next + nearI x.index)).1
 else if x.what = 2 then (s.beside x.said).1
 else if x.what = 3 then s.take.1
 else if x.what = 4 then (s.ack (s.acked + nearI x.index) (s.heard + nearI x.now)).1
 else if x.what = 5 then (s.hear (s.heard + nearI x.now)).1
 else if x.what = 6 then (s.close x.index).1
 else s
def docsR (l : List (Value × Ss)) : Res := anyR (fun F w => (∀ p ∈ l, DocAt w F p.1 p.2) ∧ ∀ k, F k → k < w.heap.size)
 (fun h hk hs => ⟨fun p hp => (h.1 p hp).keeps hk hs, fun k hF => Nat.lt_of_lt_of_le (h.2 k hF) hk.size⟩) (fun h => h.2)
theorem docs_more {A : Nat → Prop} {w w' : World} {l : List (Value × Ss)} {v' : Value} {s' : Ss} (h : (docsR l).p A w) (hp : DocPost w A s' v' w') : Upd A w w' (docsR ((v', s') :: l)) :=
 ⟨fun k => A k ∨ (w.heap.size ≤ k ∧ k < w'.heap.size), ⟨fun p hp' => by
  rcases List.mem_cons.1 hp' with rfl | hp'
  · exact hp.1
  · exact ((h.1 p hp').ext hp.2).mono fun k hk => .inl hk, fun k hk => hk.elim (fun hA => Nat.lt_of_lt_of_le (h.2 k hA) hp.2.size) (·.2)⟩, Ext.keeps hp.2, fun k hk => hk.imp id (·.1)⟩
theorem docs_sub {F : Nat → Prop} {w0 w : World} {L : List Res} {l m : List (Value × Ss)} (h : Mem F w0 w (docsR l :: L)) (hs : ∀ p ∈ m, p ∈ l) : Mem F w0 w (docsR m :: L) := h.turn fun A hA => ⟨fun p hp => hA.1 p (hs p hp), hA.2⟩
theorem docs_at {A : Nat → Prop} {w : World} {l : List (Value × Ss)} {v : Value} {s : Ss} (h : (docsR l).p A w) (hm : (v, s) ∈ l) : DocAt w A v s := h.1 _ hm
theorem doc_form {A : Nat → Prop} {w : World} {v : Value} {s : Ss} (h : DocAt w A v s) : ∃ a c p q, v = .agg (docC a c p q s).toArray := let ⟨a, c, p, q, h, _⟩ := h; ⟨a, c, p, q, h⟩
theorem infoSc : (Tryz.prog.info? 79).map (·.size) = some 19 := by kernel_rfl
end Go.Proofs.YtoadjbgpfihoiaaGreatDoor
