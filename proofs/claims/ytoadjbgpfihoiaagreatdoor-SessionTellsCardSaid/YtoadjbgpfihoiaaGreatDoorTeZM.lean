/- Texts STells, one behind the other. Conditions: as each says. -/
import Derived.Test.YtoadjbgpfihoiaaGreatDoorTeZL
import Derived.BigGuardIn
set_option linter.unusedVariables false
set_option linter.unusedSimpArgs false
set_option maxHeartbeats 8000000
set_option maxRecDepth 100000
namespace Go.Proofs.YtoadjbgpfihoiaaGreatDoor
open Go.RowKit
section
attribute [local go_sem] Oper.semAt_some
abbrev zSc : List Value := [.int .i64 0, .int .i64 0, .int .i64 0, .int .i64 0, .int .i64 0, .int .i64 0, .string ⟨#[]⟩, .string ⟨#[]⟩, .int .i64 0, .int .i64 0, .int .i64 0, .int .i64 0, .bool false, .string ⟨#[]⟩, .string ⟨#[]⟩, .int .i64 0, .int .i64 0, .int .i64 0, .string ⟨#[]⟩]
theorem zeroSc (w : World) : (zeroValue 79).run Tryz.prog w = .ok (.agg zSc.toArray) w := by kernel_rfl
abbrev zSv : List Value := [.int .i64 0, .int .i64 0, .int .i64 0, .int .i64 0, .int .i64 0, .int .i64 0, .bool false, .bool false, .int .i64 0]
theorem zeroSv (w : World) : (zeroValue 68).run Tryz.prog w = .ok (.agg zSv.toArray) w := by kernel_rfl
theorem tells_few {A : Nat → Prop} (w : World) (v : Value) (ls : List Sc) (fr most : Int) (h : Scs w A v ls) (hl : ls.length ≤ 9223372036854775807) (hT : Tabs w) (hf : fewS ls 80 = false) :
 Calls Tryz.prog 6 #[.int .i64 fr, .int .i64 most, v] w fun r w' => r = .returned (.bool true) ∧ Ext w w' := by
 have HV := Hd h; have HL := Hd hl; have HT := Hd hT; have HM := Hd (Mem.start0 w); have HF := Hd hf; obtain ⟨a0, c0, rfl⟩ := h.len; clear h hl hT hf; go_enter Tryz.func6, Tryz.ntmps6
 have fM := HM.out.fa; go_wp2_with fail; all_goals clear fM
 refine (few_s w _ ls 80 HV.out HL.out).mono ?_; rintro r w2 ⟨rfl, hE⟩; rw [HF.out]; replace HM := Hd (HM.out.ext hE); clear hE; have fM := HM.out.fa; go_wp2_with fail; all_goals clear fM
 refine nxt HM fun w8 M => ?_
 replace HM := M; clear M; refine (works_any w8 (HT.out.ext HM.out.extTo)).mono ?_; rintro r w9 ⟨rfl, hE⟩; replace HM := Hd (HM.out.ext hE); clear hE; have fM := HM.out.fa; go_wp2_with fail; all_goals clear fM
 go_ret; exact ⟨rfl, HM.out.extTo⟩
theorem tells_neg {A : Nat → Prop} (w : World) (v : Value) (ls : List Sc) (fr most : Int) (h : Scs w A v ls) (hl : ls.length ≤ 9223372036854775807) (hT : Tabs w) (hf : fewS ls 80 = true) (h1 : fr < 0) :
 Calls Tryz.prog 6 #[.int .i64 fr, .int .i64 most, v] w fun r w' => r = .returned (.bool true) ∧ Ext w w' := by
 have HV := Hd h; have HL := Hd hl; have HT := Hd hT; have HM := Hd (Mem.start0 w); have HF := Hd hf; obtain ⟨a0, c0, rfl⟩ := h.len; clear h hl hT hf; go_enter Tryz.func6, Tryz.ntmps6
 have fM := HM.out.fa; go_wp2_with fail; all_goals clear fM
 refine (few_s w _ ls 80 HV.out HL.out).mono ?_; rintro r w2 ⟨rfl, hE⟩; rw [HF.out]; replace HM := Hd (HM.out.ext hE); clear hE; have fM := HM.out.fa; go_wp2_with fail; all_goals clear fM
 refine nxt HM fun w8 M => ?_
 replace HM := M; clear M; refine (works_any w8 (HT.out.ext HM.out.extTo)).mono ?_; rintro r w9 ⟨rfl, hE⟩; replace HM := Hd (HM.out.ext hE); clear hE; have fM := HM.out.fa; go_wp2_with fail; all_goals clear fM
 go_ret; exact ⟨rfl, HM.out.extTo⟩
theorem tells_far {A : Nat → Prop} (w : World) (v : Value) (ls : List Sc) (fr most : Int) (h : Scs w A v ls) (hl : ls.length ≤ 9223372036854775807) (hT : Tabs w) (hf : fewS ls 80 = true) (h1 : ¬ fr < 0) (h2 : 1000000000 < fr) :
 Calls Tryz.prog 6 #[.int .i64 fr, .int .i64 most, v] w fun r w' => r = .returned (.bool true) ∧ Ext w w' := by
 have HV := Hd h; have HL := Hd hl; have HT := Hd hT; have HM := Hd (Mem.start0 w); have HF := Hd hf; obtain ⟨a0, c0, rfl⟩ := h.len; clear h hl hT hf; go_enter Tryz.func6, Tryz.ntmps6
 have fM := HM.out.fa; go_wp2_with fail; all_goals clear fM
 refine (few_s w _ ls 80 HV.out HL.out).mono ?_; rintro r w2 ⟨rfl, hE⟩; rw [HF.out]; replace HM := Hd (HM.out.ext hE); clear hE; have fM := HM.out.fa; go_wp2_with fail; all_goals clear fM
 refine nxt HM fun w8 M => ?_
 replace HM := M; clear M; refine (works_any w8 (HT.out.ext HM.out.extTo)).mono ?_; rintro r w9 ⟨rfl, hE⟩; replace HM := Hd (HM.out.ext hE); clear hE; have fM := HM.out.fa; go_wp2_with fail; all_goals clear fM
 go_ret; exact ⟨rfl, HM.out.extTo⟩
theorem tells_no {A : Nat → Prop} (w : World) (v : Value) (ls : List Sc) (fr most : Int) (h : Scs w A v ls) (hl : ls.length ≤ 9223372036854775807) (hT : Tabs w) (hf : fewS ls 80 = true) (h1 : ¬ fr < 0) (h2 : ¬ 1000000000 < fr) (hn : newOk 3 1 fr most 10 0 = false) :
 Calls Tryz.prog 6 #[.int .i64 fr, .int .i64 most, v] w fun r w' => r = .returned (.bool true) ∧ Ext w w' := by
 have HN := Hd hn; clear hn; have HV := Hd h; have HL := Hd hl; have HT := Hd hT; have HM := Hd (Mem.start0 w); have HF := Hd hf; obtain ⟨a0, c0, rfl⟩ := h.len; clear h hl hT hf; go_enter Tryz.func6, Tryz.ntmps6
 have fM := HM.out.fa; go_wp2_with fail; all_goals clear fM
 refine (few_s w _ ls 80 HV.out HL.out).mono ?_; rintro r w2 ⟨rfl, hE⟩; rw [HF.out]; replace HM := Hd (HM.out.ext hE); clear hE; have fM := HM.out.fa; go_wp2_with fail; all_goals clear fM
 refine nxt HM fun w3 M => ?_
 replace HM := M; clear M; refine (snew_no w3 3 1 fr most 10 0 HN.out).mono ?_; rintro r w4 ⟨rfl, hE⟩; replace HM := Hd (HM.out.ext hE); clear hE; have fM := HM.out.fa; go_wp2_with fail; all_goals clear fM
 refine cret (snum_any _ _) ?_; have fM := HM.out.fa; go_wp2_with fail; all_goals clear fM
 refine nxt HM fun w8 M => ?_
 replace HM := M; clear M; refine (works_any w8 (HT.out.ext HM.out.extTo)).mono ?_; rintro r w9 ⟨rfl, hE⟩; replace HM := Hd (HM.out.ext hE); clear hE; have fM := HM.out.fa; go_wp2_with fail; all_goals clear fM
 go_ret; exact ⟨rfl, HM.out.extTo⟩
theorem tells_in {A : Nat → Prop} (w : World) (v : Value) (ls : List Sc) (fr most : Int) (h : Scs w A v ls) (hl : ls.length ≤ 9223372036854775807) (hT : Tabs w) (hf : fewS ls 80 = true) (h1 : ¬ fr < 0) (h2 : ¬ 1000000000 < fr) (hn : newOk 3 1 fr most 10 0 = true) :
 Calls Tryz.prog 6 #[.int .i64 fr, .int .i64 most, v] w fun r w' => r = .returned (.bool true) ∧ Ext w w' := by
 have HN := Hd hn; obtain ⟨s0, hs0⟩ : ∃ s, newS 3 1 fr most.toNat 10 0 = s := ⟨_, rfl⟩; have hok0 := (new_ok hn).1; have hmo := (new_ok hn).2; have hlw0 := Lw.new hn; have hst0 : s0.sent = fr := by rw [← hs0]
 have hmo0 : (s0.ring.most : Int) = most := by rw [← hs0]; exact hmo
 rw [hs0] at hok0 hlw0; have HS0 := Hd hs0; have HOK0 := Hd hok0; have HLW0 := Hd hlw0; have HST0 := Hd hst0; have HMO := Hd hmo0; have H1 := Hd h1; have H2 := Hd h2; clear hn hs0 hok0 hmo hlw0 hst0 hmo0; have HV := Hd h; have HL := Hd hl; have HT := Hd hT; have HM := Hd (Mem.start0 w); have HF := Hd hf; obtain ⟨a0, c0, rfl⟩ := h.len; clear h hl hT hf; go_enter Tryz.func6, Tryz.ntmps6
 have fM := HM.out.fa; go_wp2_with fail; all_goals clear fM
 refine (few_s w _ ls 80 HV.out HL.out).mono ?_; rintro r w2 ⟨rfl, hE⟩; rw [HF.out]; replace HM := Hd (HM.out.ext hE); clear hE; have fM := HM.out.fa; go_wp2_with fail; all_goals clear fM
 clear h1 h2; refine nxt HM fun w3 M => ?_
 replace HM := M; clear M; refine (snew_yes w3 3 1 fr most 10 0 HN.out).mono ?_; rintro r w4 ⟨sb, rfl, hU⟩; rw [HS0.out] at hU; replace HM := Hd (HM.out.newU hU); clear hU; have fM := HM.out.fa; go_wp2_with fail; all_goals clear fM
 refine cret (snum_any _ _) ?_; replace HM := Hd (HM.out.nilRow (E := tenE)); have fM := HM.out.fa; go_wp2_with fail; all_goals clear fM
 have hmost := fewS.len HF.out; go_loopw [9, 10, 11] (fun o t i wr => ∃ (k : Nat) (off : List En) (a : Option Addr) (c : Nat), k ≤ ls.length ∧ o = .slice a off.length c ∧ t = .int .i64 (s0.acts (ls.take k)).sent ∧ i = .int .i64 k ∧ Hid (Lw (s0.acts (ls.take k)) fr off) ∧ Hid (off.length ≤ k) ∧ Hid (Mem NoB w wr [rowR tenE (.slice a off.length c) off, sesR sb (s0.acts (ls.take k))])) (fun _ _ i _ => ls.length - (intOf i).toNat)
 case atStart =>
  refine ⟨0, [], none, 0, Nat.zero_le _, rfl, ?_, rfl, Hd ?_, Hd (Nat.le_refl _), Hd ?_⟩
  · rw [show s0.acts (ls.take 0) = s0 from rfl, HST0.out]
  · rw [show s0.acts (ls.take 0) = s0 from rfl]
    exact HLW0.out
  · rw [show s0.acts (ls.take 0) = s0 from rfl]
    exact HM.out
 case round =>
  clear HM; obtain ⟨k, off, a, c, hk, rfl, rfl, rfl, HLW, HLE, HM⟩ := hrel; by_cases hlt : k < ls.length
  · have hok : OkSs (s0.acts (ls.take k)) k := by
     have := HOK0.out.acts (ls.take k); rw [List.length_take, Nat.min_eq_left hk, Nat.zero_add] at this; exact this
    have hsn := acts_snoc s0 ls k hlt; have hmk := acts_most (ls.take k) s0; obtain ⟨g, o, rfl⟩ := HV.out.adr k hlt; have hld := (HV.out.ext HM.out.extTo).ld k hlt; have hsc := HV.out.ok k hlt; have hsh := fewS.short HF.out k hlt; obtain ⟨x, hx⟩ : ∃ x, ls[k] = x := ⟨_, rfl⟩; rw [hx] at hsn hld hsc hsh; obtain ⟨s, hs⟩ : ∃ s, s0.acts (ls.take k) = s := ⟨_, rfl⟩; rw [hs] at hok hsn HM HLW hmk; rw [hs]; have HOK := Hd hok; have HSN := Hd hsn; have HSC := Hd hsc; have HSH := Hd hsh; have hmk2 : (s.ring.most : Int) = most := by rw [hmk]; exact HMO.out
    have HMK := Hd hmk2; have HK80 := Hd (show k < 80 by omega); have g1 : (k : Int) < (ls.length : Int) := by omega
    have g2 : ¬ (k : Int) < 0 := by omega
    clear hok hsn hsc hsh hx hs hmk hmk2; have fM := HM.out.fa
    go_wp2_with (first
     | ((with_reducible refine at_list ?_); (with_reducible refine at_load 79 _ rfl ?_); refine wpList_ran rfl (elM' 79 _ rfl rfl hld) ?_)
     | ((with_reducible refine at_list ?_); (with_reducible refine at_alloc 79 rfl ?_); refine alW 79 rfl rfl (zeroSc _) HM.out ?_; intro w9 kx M; refine standing ?_))
    replace HM := Hd M; clear M fM hld; refine ⟨?_⟩; have fM := HM.out.fa; go_wp2_with (((with_reducible refine at_store 79 _ _ rfl ?_); refine stW 79 _ _ rfl rfl rfl rfl HM.out infoSc ?_; intro w9 M); replace HM := Hd M; clear M fM; have fM := HM.out.fa); all_goals clear fM
    refine nxt HM fun w10 M => ?_
    replace HM := M; clear M; obtain ⟨Ahs, hs⟩ := HM.out.get (r := sesR sb s) pk; refine (state_any w10 sb s hs HOK.out.its6 HOK.out.len3).mono ?_; rintro r w11 ⟨rfl, hE⟩; replace HM := Hd (HM.out.ext hE); clear hE hs; have fM := HM.out.fa; go_wp2_with (((with_reducible refine at_alloc 68 rfl ?_); refine alW 68 rfl rfl (zeroSv _) HM.out ?_; intro w9 n9 M); replace HM := Hd M; clear M fM; have fM := HM.out.fa; refine standing ?_); all_goals clear fM
    rename Nat => kt
    refine ⟨?_⟩; have hw1 : wrap64 (s.sent - s.acked) = s.sent - s.acked := IntWalk.wrap64_in _ (by have := HOK.out.sent0; have := HOK.out.ack0; have := HOK.out.next0; have := HOK.out.next1; omega)
    have hw2 : wrap64 (fr + (off.length : Int)) = s.next := by
     rw [← HLW.out.offN]; exact IntWalk.wrap64_in _ (by have := HOK.out.sent0; have := HOK.out.ack0; have := HOK.out.next0; have := HOK.out.next1; omega)
    have g3 : ¬ most < s.sent - s.acked := by have := HLW.out.most; rw [HMK.out] at this; omega
    have g4 : ¬ most < s.queued := by have := Lw.queued HOK.out; rw [HMK.out] at this; omega
    have fM := HM.out.fa; go_wp2_with (((with_reducible refine at_store 68 _ _ rfl ?_); refine stW 68 _ _ rfl rfl rfl rfl HM.out infoSv ?_; intro w9 M); replace HM := Hd M; clear M fM; have fM := HM.out.fa); all_goals clear fM
    clear hw1 hw2 g3 g4; obtain ⟨now, hnow⟩ : ∃ n, s.heard + nearI x.now = n := ⟨_, rfl⟩
    have hww : IntKind.i64.wrap (s.heard + nearI x.now) = now := by
     rw [hnow]; exact IntWalk.i64_in _ (by have := HOK.out.heard; have := near_le x.now; unfold farN at *; omega)
    have HNOW := Hd hnow; clear hnow; refine nxt HM fun w12 M => ?_
    replace HM := M; clear M; have fM := HM.out.fa; have hE0 : Keeps NoB w12 w12.drew := (Keeps.refl _ _).drew; refine rgE [(0, 0), (1, 1), (0, 2), (3, 3), (2, 4), (0, 5), (0, 6)] [1] [4] [] ?_; simp only [planL, nL]; iterate 4 (first | (refine pR (by rfl) (fun W => by go_simp <;> with_reducible rfl) ?_; simp only [nP]) | (refine pX (by rfl) (by go_simp <;> with_reducible rfl) ?_; simp only [nP]) | (refine pL (by rfl) (fun W => by go_simp <;> with_reducible rfl) ?_; simp only [nP]))
    refine plan_does rfl (fun K hK => ?_); go_wp2_with fail; refine (near_any _ _).mono ?_; rintro r wq ⟨rfl, rfl⟩; have hE2 := hE0; refine hK _ _ ⟨ClsE.of (by assumption), ?_⟩; clear hK K; try simp only [nP]
    refine pR rfl (fun W => by go_simp <;> with_reducible rfl) ?_; simp only [nP]; refine pA _ rfl rfl ?_; simp only [nP, nE]; refine plan_nil ?_; simp only [tailL, List.filterMap_nil]; clear hww hE0; clear fM; by_cases c0 : x.what = 0
    · skip
      obtain ⟨i, hi⟩ : ∃ n, s.next + nearI x.index = n := ⟨_, rfl⟩
      have hiw : IntKind.i64.wrap (s.next + nearI x.index) = i := by
       rw [hi]; have := near_le x.index; have := HOK.out.next0; have := HOK.out.next1; have := HOK.out.ack0; have := HOK.out.sent0; exact IntWalk.i64_in _ (by omega)
      obtain ⟨⟨s1, no⟩, hq⟩ : ∃ z, s.offer i x.e x.token = z := ⟨_, rfl⟩; have hlw := (HLW.out.offer HOK.out i x.e x.token).1; have hst := (offer_sent s i x.e x.token).1; rw [hq] at hlw hst; dsimp only at hlw hst; have HSA := Hd (show s.act x = s1 by rw [act_d s x c0, hi, hq]); have HST := Hd (show (s.act x).sent = s.sent by rw [HSA.out]; exact hst); have HQ := Hd hq; clear hq hst hi; by_cases hno : no = 0
      · rw [if_pos hno] at hlw
        obtain ⟨of2, ho2⟩ : ∃ l, off ++ [x.e] = l := ⟨_, rfl⟩; have HO2 := Hd ho2; rw [ho2] at hlw; have HLN := Hd (show Lw (s.act x) fr of2 by rw [HSA.out]; exact hlw); have d1 : (no == 0) = true := by simpa using hno
        clear hlw ho2 hno; have fM := HM.out.fa; go_wp2_with fail; all_goals clear fM
        refine nxt HM fun w13 M => ?_
        replace HM := M; clear M; obtain ⟨_, hBk⟩ := HM.out.get (r := cellsR kt 68 s.state) pk; have HBT := Hd hBk.2; clear hBk; obtain ⟨_, hBk⟩ := HM.out.get (r := cellsR kx 79 x.cells) pk; have HBX := Hd hBk.2; clear hBk; have fM := HM.out.fa; go_wp2_with fail; have HFN := Hd (show w13.cell? ⟨kt, 2, none⟩ = some (.int .i64 s.next) from HBT.out.reads.1 2); have HFT := Hd (show w13.cell? ⟨kx, 7, none⟩ = some (.string (bs x.token)) from HBX.out.reads.1 7)
        have HFE := Hd (show ∀ j, j < 4 → w13.cell? ⟨kx, 3 + j, none⟩ = x.e.cells[j]? from fun j hj => by
         rw [HBX.out.reads.1]; obtain rfl | rfl | rfl | rfl : j = 0 ∨ j = 1 ∨ j = 2 ∨ j = 3 := by omega
         all_goals rfl)
        have hE0 : Keeps (fun k => ¬ (k = kt ∨ k = kx)) w13 w13.drew := (Keeps.refl _ _).drew; refine rgK (fun k => ¬ (k = kt ∨ k = kx)) [(0, 0), (0, 1), (1, 2), (0, 3), (3, 4), (0, 7), (1, 8), (0, 9), (1, 10), (2, 5), (0, 6)] [2, 8, 10] [5, 11, 12, 13] [11, 12, 13] ?_ (hp := (plan3 [0, 0, 2, 0, 8, 24, 62, 0, 128, 0, 512, 2047, 4095, 8191] (by kernel_rfl) rfl (by kernel_rfl))); simp only [planL, nL]; refine pM _ rfl rfl ?_; simp only [nP, nE]; refine pR rfl (fun W => by go_simp <;> with_reducible rfl) ?_; simp only [nP]; refine pK (v := .int .i64 s.next) rfl (fun y => elM' 2 _ rfl rfl (ld_i64 y.w kt 2 _ (y.h.cell (fun h => h (.inl rfl)) HFN.out))) ?_; simp only [nP]; iterate 3 (first | (refine pR (by rfl) (fun W => by go_simp <;> with_reducible rfl) ?_; simp only [nP]) | (refine pX (by rfl) (by go_simp <;> with_reducible rfl) ?_; simp only [nP]))
        refine pK (v := .agg x.e.cells.toArray) rfl (fun y => elM' 35 _ rfl rfl (ld_en y.w kx 3 x.e (fun j hj => en_keeps y.h (fun h => h (.inr rfl)) HFE.out j hj))) ?_; simp only [nP]; refine pR rfl (fun W => by go_simp <;> with_reducible rfl) ?_; simp only [nP]; refine pK (v := .string (bs x.token)) rfl (fun y => elM' 9 _ rfl rfl (ld_str y.w kx 7 _ (y.h.cell (fun h => h (.inr rfl)) HFT.out))) ?_; simp only [nP]; refine plan_does rfl (fun K hK => ?_); go_wp2_with fail; skip
        replace HM := Hd HM.out.drew; refine cret (near_any _ _) ?_; refine hK _ _ ⟨ClsK.of (by assumption), ?_⟩; clear hK K; try simp only [nP]
        refine pR rfl (fun W => by go_simp <;> with_reducible rfl) ?_; simp only [nP]; refine plan_nil ?_; simp only [tailL, List.filterMap_cons, List.filterMap_nil, nL]; change wpList _ _ _ (_ :: _ :: _ :: []) _ _; go_wp2_with fail; skip
        obtain ⟨A', hA', hAF, hZ, hblk⟩ := (HM.out.pick (r := sesR sb s) pk).step2; have hn1 := hblk kt _ _ _ (by with_reducible repeat first | exact ph | apply pt); have hn2 := hblk kx _ _ _ (by with_reducible repeat first | exact ph | apply pt); refine (offer_any _ sb s k HOK.out (by have := HK80.out; omega) i x.e x.token HSC.out.ek (Nat.le_trans HSH.out.e (by decide)) (Nat.le_trans HSH.out.t (by decide)) hA' (tabX_ok.step (show TabX NoB w from ⟨HT.out, noB _, noB _⟩) HM.out.keepsTo hAF)).mono ?_; rintro r wz ⟨rfl, hU⟩; have hE7 := hE0.then hU.keepsTo (fun i _ h e => e.elim (fun e => hn1 (e ▸ h)) (fun e => hn2 (e ▸ h))); replace HM := Hd (hZ _ _ hU); clear hA' hAF hZ hblk hn1 hn2 hU; clear A'; rw [HQ.out] at HM ⊢; go_wp2_with fail; skip
        refine cret (snum_any _ _) ?_; clear fM; clear hiw hE0 hE7; have fM := HM.out.fa; go_wp2_with (at_builtin; refine standing ?_); all_goals clear fM
        refine nxt HM fun w14 M => ?_
        replace HM := M; clear M; obtain ⟨Ahb, hb⟩ := HM.out.get (r := cellsR _ 35 [.int .i64 x.e.kind, .int .i64 x.e.member, .int .i64 x.e.number, .string (bs x.e.text)]) (by with_reducible repeat first | exact ph | apply pt); obtain ⟨v8, w8, hr, hm8⟩ := add_ten 39 (HM.out.pick (r := rowR tenE (.slice a off.length c) off) pk) _ 1 x.e hb.2.reads.1 (by have := HLE.out; have := HK80.out; omega); rw [HO2.out] at hm8; obtain ⟨a8, c8, rfl⟩ := hm8.fact (fun A h => row_len h); replace HM := Hd hm8; refine ⟨?_⟩; refine wpList_append_ran rfl _ _ hr rfl rfl rfl ?_; clear hr hm8 hb; try clear Ahb
        have fM := HM.out.fa; go_wp2_with fail; all_goals clear fM
        rw [← HSA.out] at HM; have hl2 : of2.length ≤ k + 1 := by rw [← HO2.out, List.length_append, List.length_singleton]; have := HLE.out; omega
        have HL2 := Hd hl2; clear hl2; go_roundw
        case rel =>
         refine ⟨k + 1, of2, _, _, by omega, rfl, by rw [HSN.out, HST.out], by go_num, Hd ?_, Hd ?_, Hd ?_⟩
         · rw [HSN.out]
           exact HLN.out
         · exact HL2.out
         · rw [HSN.out]
           exact Mem.sub HM.out (by repeat first | exact Sub.nil | refine Sub.cons (by with_reducible repeat first | exact ph | apply pt) ?_)
        case measure => simp [intOf]; omega
      · rw [if_neg hno] at hlw
        have HLN := Hd (show Lw (s.act x) fr off by rw [HSA.out]; exact hlw); have d1 : (no == 0) = false := by simpa using hno
        clear hlw hno; have fM := HM.out.fa; go_wp2_with fail; all_goals clear fM
        refine nxt HM fun w13 M => ?_
        replace HM := M; clear M; obtain ⟨_, hBk⟩ := HM.out.get (r := cellsR kt 68 s.state) pk; have HBT := Hd hBk.2; clear hBk; obtain ⟨_, hBk⟩ := HM.out.get (r := cellsR kx 79 x.cells) pk; have HBX := Hd hBk.2; clear hBk; have fM := HM.out.fa; go_wp2_with fail; have HFN := Hd (show w13.cell? ⟨kt, 2, none⟩ = some (.int .i64 s.next) from HBT.out.reads.1 2); have HFT := Hd (show w13.cell? ⟨kx, 7, none⟩ = some (.string (bs x.token)) from HBX.out.reads.1 7)
        have HFE := Hd (show ∀ j, j < 4 → w13.cell? ⟨kx, 3 + j, none⟩ = x.e.cells[j]? from fun j hj => by
         rw [HBX.out.reads.1]; obtain rfl | rfl | rfl | rfl : j = 0 ∨ j = 1 ∨ j = 2 ∨ j = 3 := by omega
         all_goals rfl)
        have hE0 : Keeps (fun k => ¬ (k = kt ∨ k = kx)) w13 w13.drew := (Keeps.refl _ _).drew; refine rgK (fun k => ¬ (k = kt ∨ k = kx)) [(0, 0), (0, 1), (1, 2), (0, 3), (3, 4), (0, 7), (1, 8), (0, 9), (1, 10), (2, 5), (0, 6)] [2, 8, 10] [5, 11, 12, 13] [11, 12, 13] ?_ (hp := (plan3 [0, 0, 2, 0, 8, 24, 62, 0, 128, 0, 512, 2047, 4095, 8191] (by kernel_rfl) rfl (by kernel_rfl))); simp only [planL, nL]; refine pM _ rfl rfl ?_; simp only [nP, nE]; refine pR rfl (fun W => by go_simp <;> with_reducible rfl) ?_; simp only [nP]; refine pK (v := .int .i64 s.next) rfl (fun y => elM' 2 _ rfl rfl (ld_i64 y.w kt 2 _ (y.h.cell (fun h => h (.inl rfl)) HFN.out))) ?_; simp only [nP]; iterate 3 (first | (refine pR (by rfl) (fun W => by go_simp <;> with_reducible rfl) ?_; simp only [nP]) | (refine pX (by rfl) (by go_simp <;> with_reducible rfl) ?_; simp only [nP]))
        refine pK (v := .agg x.e.cells.toArray) rfl (fun y => elM' 35 _ rfl rfl (ld_en y.w kx 3 x.e (fun j hj => en_keeps y.h (fun h => h (.inr rfl)) HFE.out j hj))) ?_; simp only [nP]; refine pR rfl (fun W => by go_simp <;> with_reducible rfl) ?_; simp only [nP]; refine pK (v := .string (bs x.token)) rfl (fun y => elM' 9 _ rfl rfl (ld_str y.w kx 7 _ (y.h.cell (fun h => h (.inr rfl)) HFT.out))) ?_; simp only [nP]; refine plan_does rfl (fun K hK => ?_); go_wp2_with fail; skip
        replace HM := Hd HM.out.drew; refine cret (near_any _ _) ?_; refine hK _ _ ⟨ClsK.of (by assumption), ?_⟩; clear hK K; try simp only [nP]
        refine pR rfl (fun W => by go_simp <;> with_reducible rfl) ?_; simp only [nP]; refine plan_nil ?_; simp only [tailL, List.filterMap_cons, List.filterMap_nil, nL]; change wpList _ _ _ (_ :: _ :: _ :: []) _ _; go_wp2_with fail; skip
        obtain ⟨A', hA', hAF, hZ, hblk⟩ := (HM.out.pick (r := sesR sb s) pk).step2; have hn1 := hblk kt _ _ _ (by with_reducible repeat first | exact ph | apply pt); have hn2 := hblk kx _ _ _ (by with_reducible repeat first | exact ph | apply pt); refine (offer_any _ sb s k HOK.out (by have := HK80.out; omega) i x.e x.token HSC.out.ek (Nat.le_trans HSH.out.e (by decide)) (Nat.le_trans HSH.out.t (by decide)) hA' (tabX_ok.step (show TabX NoB w from ⟨HT.out, noB _, noB _⟩) HM.out.keepsTo hAF)).mono ?_; rintro r wz ⟨rfl, hU⟩; have hE7 := hE0.then hU.keepsTo (fun i _ h e => e.elim (fun e => hn1 (e ▸ h)) (fun e => hn2 (e ▸ h))); replace HM := Hd (hZ _ _ hU); clear hA' hAF hZ hblk hn1 hn2 hU; clear A'; rw [HQ.out] at HM ⊢; go_wp2_with fail; skip
        refine cret (snum_any _ _) ?_; clear fM; clear hiw hE0 hE7; have fM := HM.out.fa; go_wp2_with fail; all_goals clear fM
        rw [← HSA.out] at HM; go_roundw
        case rel =>
         refine ⟨k + 1, off, _, _, by omega, rfl, by rw [HSN.out, HST.out], by go_num, Hd ?_, Hd ?_, Hd ?_⟩
         · rw [HSN.out]
           exact HLN.out
         · exact Nat.le_succ_of_le HLE.out
         · rw [HSN.out]
           exact Mem.sub HM.out (by repeat first | exact Sub.nil | refine Sub.cons (by with_reducible repeat first | exact ph | apply pt) ?_)
        case measure => simp [intOf]; omega
    by_cases c1 : x.what = 1
    · skip
      obtain ⟨i, hi⟩ : ∃ n, s.next + nearI x.index = n := ⟨_, rfl⟩
      have hiw : IntKind.i64.wrap (s.next + nearI x.index) = i := by
       rw [hi]; have := near_le x.index; have := HOK.out.next0; have := HOK.out.next1; have := HOK.out.ack0; have := HOK.out.sent0; exact IntWalk.i64_in _ (by omega)
      have HSA := Hd (show s.act x = (s.reach i).1 by rw [act_e s x c1, hi]); have HLN := Hd (show Lw (s.act x) fr off by rw [HSA.out]; exact HLW.out.reach _); have HST := Hd (show (s.act x).sent = s.sent by rw [HSA.out]; exact (reach_sent _ _).1); clear hi; have fM := HM.out.fa; go_wp2_with fail; all_goals clear fM
      refine nxt HM fun w13 M => ?_
      replace HM := M; clear M; obtain ⟨_, hBk⟩ := HM.out.get (r := cellsR kt 68 s.state) pk; have HBT := Hd hBk.2; clear hBk; obtain ⟨_, hBk⟩ := HM.out.get (r := cellsR kx 79 x.cells) pk; have HBX := Hd hBk.2; clear hBk; have fM := HM.out.fa; go_wp2_with fail; have HFN := Hd (show w13.cell? ⟨kt, 2, none⟩ = some (.int .i64 s.next) from HBT.out.reads.1 2); have hE0 : Keeps (fun k => ¬ (k = kt ∨ k = kx)) w13 w13.drew := (Keeps.refl _ _).drew; refine rgK (fun k => ¬ (k = kt ∨ k = kx)) [(0, 0), (0, 1), (1, 2), (0, 3), (3, 4), (2, 5), (0, 6)] [2] [5, 7] [7] ?_; simp only [planL, nL]; refine pM _ rfl rfl ?_; simp only [nP, nE]; refine pR rfl (fun W => by go_simp <;> with_reducible rfl) ?_; simp only [nP]; refine pK (v := .int .i64 s.next) rfl (fun y => elM' 2 _ rfl rfl (ld_i64 y.w kt 2 _ (y.h.cell (fun h => h (.inl rfl)) HFN.out))) ?_; simp only [nP]; refine pR rfl (fun W => by go_simp <;> with_reducible rfl) ?_; simp only [nP]; refine pX rfl (by go_simp <;> with_reducible rfl) ?_; simp only [nP]; refine plan_does rfl (fun K hK => ?_); go_wp2_with fail; skip
      replace HM := Hd HM.out.drew; refine cret (near_any _ _) ?_; refine hK _ _ ⟨ClsK.of (by assumption), ?_⟩; clear hK K; try simp only [nP]
      refine pR rfl (fun W => by go_simp <;> with_reducible rfl) ?_; simp only [nP]; refine plan_nil ?_; simp only [tailL, List.filterMap_cons, List.filterMap_nil, nL]; change wpList _ _ _ (_ :: []) _ _; go_wp2_with fail; skip
      obtain ⟨A', hA', hAF, hZ, hblk⟩ := (HM.out.pick (r := sesR sb s) pk).step2; have hn1 := hblk kt _ _ _ (by with_reducible repeat first | exact ph | apply pt); have hn2 := hblk kx _ _ _ (by with_reducible repeat first | exact ph | apply pt); refine (reach_any _ sb s i hA').mono ?_; rintro r wz ⟨rfl, hU⟩; have hE7 := hE0.then hU.keepsTo (fun i _ h e => e.elim (fun e => hn1 (e ▸ h)) (fun e => hn2 (e ▸ h))); replace HM := Hd (hZ _ _ hU); clear hA' hAF hZ hblk hn1 hn2 hU; clear A'; clear fM; clear hiw hE0 hE7; have fM := HM.out.fa; go_wp2_with fail; all_goals clear fM
      rw [← HSA.out] at HM; go_roundw
      case rel =>
       refine ⟨k + 1, off, _, _, by omega, rfl, by rw [HSN.out, HST.out], by go_num, Hd ?_, Hd ?_, Hd ?_⟩
       · rw [HSN.out]
         exact HLN.out
       · exact Nat.le_succ_of_le HLE.out
       · rw [HSN.out]
         exact Mem.sub HM.out (by repeat first | exact Sub.nil | refine Sub.cons (by with_reducible repeat first | exact ph | apply pt) ?_)
      case measure => simp [intOf]; omega
    by_cases c2 : x.what = 2
    · skip
      have HSA := Hd (act_f s x c2); have HLN := Hd (show Lw (s.act x) fr off by rw [HSA.out]; exact HLW.out.beside HOK.out x.said); have HST := Hd (show (s.act x).sent = s.sent by rw [HSA.out]; exact (beside_sent _ _).1); have fM := HM.out.fa; go_wp2_with fail; all_goals clear fM
      refine nxt HM fun w13 M => ?_
      replace HM := M; clear M; obtain ⟨A', hA', hAF, hZ, hblk⟩ := (HM.out.pick (r := sesR sb s) pk).step2; refine (beside_any w13 sb s k HOK.out (by have := HK80.out; omega) x.said (HSH.out.okS HSC.out) HSC.out.sk hA' (tabX_ok.step (show TabX NoB w from ⟨HT.out, noB _, noB _⟩) HM.out.keepsTo hAF)).mono ?_; rintro r wz ⟨rfl, hU⟩; replace HM := Hd (hZ _ _ hU); clear hA' hAF hZ hblk hU; clear A'; have fM := HM.out.fa; go_wp2_with fail; all_goals clear fM
      rw [← HSA.out] at HM; go_roundw
      case rel =>
       refine ⟨k + 1, off, _, _, by omega, rfl, by rw [HSN.out, HST.out], by go_num, Hd ?_, Hd ?_, Hd ?_⟩
       · rw [HSN.out]
         exact HLN.out
       · exact Nat.le_succ_of_le HLE.out
       · rw [HSN.out]
         exact Mem.sub HM.out (by repeat first | exact Sub.nil | refine Sub.cons (by with_reducible repeat first | exact ph | apply pt) ?_)
      case measure => simp [intOf]; omega
    by_cases c3 : x.what = 3
    · skip
      have fM := HM.out.fa; go_wp2_with fail; all_goals clear fM
      refine nxt HM fun w13 M => ?_
      replace HM := M; clear M; obtain ⟨A', hA', hAF, hZ, hblk⟩ := (HM.out.pick (r := sesR sb s) pk).step2; refine (stake_any w13 sb s k HOK.out hA').mono ?_; rintro r wz ⟨vb, rfl, hU, hv⟩; replace HM := Hd (hZ _ _ hU); clear hZ hblk hU hA' hAF; obtain ⟨ab, cb, rfl⟩ := hv.len; have HSA := Hd (act_g s x c3); obtain ⟨ob, hob⟩ : ∃ b, s.take.2 = b := ⟨_, rfl⟩; rw [hob] at hv ⊢; cases ob with
      | none =>
        have h0 := HLW.out.take0 hob; have HLN := Hd (show Lw (s.act x) fr off by rw [HSA.out]; exact h0.1); have HST := Hd (show (s.act x).sent = s.sent by rw [HSA.out]; exact h0.2); clear hob hv h0; clear A'; rw [show (none : Option (List UInt8)).isSome = false from rfl]; have fM := HM.out.fa; go_wp2_with fail; all_goals clear fM
        rw [← HSA.out] at HM; go_roundw
        case rel =>
         refine ⟨k + 1, off, _, _, by omega, rfl, by rw [HSN.out, HST.out], by go_num, Hd ?_, Hd ?_, Hd ?_⟩
         · rw [HSN.out]
           exact HLN.out
         · exact Nat.le_succ_of_le HLE.out
         · rw [HSN.out]
           exact Mem.sub HM.out (by repeat first | exact Sub.nil | refine Sub.cons (by with_reducible repeat first | exact ph | apply pt) ?_)
        case measure => simp [intOf]; omega
      | some b =>
        obtain ⟨y, hy, hby, hlw, hor⟩ := HLW.out.take b hob; subst hby
        have HY := Hd hy; have HLN := Hd (show Lw (s.act x) fr off by rw [HSA.out]; exact hlw); have HR := Hd (show readL (rawS y) = (y, (rawS y).length, 0) by have := readL_app y hy []; rw [List.append_nil] at this; exact this); have HBL := Hd (raw_len y hy); rw [show (some (rawS y)).isSome = true from rfl]; rw [show (some (rawS y)).getD [] = rawS y from rfl] at hv ⊢; have HVB := Hd hv; clear hob hv hy hlw; have fM := HM.out.fa; go_wp2_with fail; all_goals clear fM
        refine (docRead_any wz wz (HT.out.ext HM.out.extTo) (Keeps.refl _ _) _ (rawS y) HVB.out (fun k hk => hk.2) (by have := HBL.out; omega)).mono ?_; rintro r w15 ⟨rfl, hE⟩; rw [HR.out]; replace HM := Hd (HM.out.ext hE); clear hE HVB; clear A'; dsimp only; unfold Sd.v Sd.cells; obtain ⟨nb, hnb⟩ : ∃ n, (rawS y).length = n := ⟨_, rfl⟩; rw [hnb]; clear hnb; rcases hor with ⟨h9, hsent⟩ | ⟨h9, hix, hof, hsent⟩
        · have HST := Hd (show (s.act x).sent = s.sent by rw [HSA.out]; exact hsent)
          have d9 : (y.kind == 9) = false := by simpa using h9
          clear hsent h9; have fM := HM.out.fa; go_wp2_with fail; all_goals clear fM
          rw [← HSA.out] at HM; go_roundw
          case rel =>
           refine ⟨k + 1, off, _, _, by omega, rfl, by rw [HSN.out, HST.out], by go_num, Hd ?_, Hd ?_, Hd ?_⟩
           · rw [HSN.out]
             exact HLN.out
           · exact Nat.le_succ_of_le HLE.out
           · rw [HSN.out]
             exact Mem.sub HM.out.to (by repeat first | exact Sub.nil | refine Sub.cons (by with_reducible repeat first | exact ph | apply pt) ?_)
          case measure => simp [intOf]; omega
        · have HST := Hd (show (s.act x).sent = s.sent + 1 by rw [HSA.out]; exact hsent)
          have d9 : (y.kind == 9) = true := by simpa using h9
          obtain ⟨j, hj1, hj2, hj3⟩ := tells_get HLW.out.fr0.2 hof; have HJ := Hd hj3; rw [hix]; clear hsent h9 hix hof hj3; have fM := HM.out.fa; go_wp2_with fail; all_goals clear fM
          refine nxt HM fun w16 M => ?_
          replace HM := M; clear M; obtain ⟨A9, h9⟩ := HM.out.get (r := rowR tenE (.slice a off.length c) off) pk; obtain ⟨g, o, cap, hva, hcap, -, hcells⟩ := row_cells h9 (by omega); cases hva
          have hce := hcells j hj2; rw [(List.getElem?_eq_some_iff.1 HJ.out).2] at hce; have f0 := hce 0 (by decide); have f1 := hce 1 (by decide); have f2 := hce 2 (by decide); have f3 := hce 3 (by decide); clear hce hcells h9 A9; simp only [tenE, En.cells, Nat.add_zero, List.getElem?_cons_zero, List.getElem?_cons_succ] at f0 f1 f2 f3; have hwj : IntKind.i64.wrap (s.sent - fr) = (j : Int) := by rw [hj1]; exact IntWalk.i64_in _ (by have := HLE.out; have := HK80.out; omega)
          have q1 : (j : Int) < (off.length : Int) := by omega
          have q2 : ¬ (j : Int) < 0 := by omega
          have hq1 := fun W => ne_ten y.e W
          have hw3 : wrap64 (s.sent + 1) = s.sent + 1 := IntWalk.wrap64_in _ (by have := HOK.out.sent0; have := HOK.out.ack0; have := HOK.out.next0; have := HOK.out.next1; omega); have HW3 := Hd hw3; clear hw3 hj1; have fM := HM.out.fa; go_wp2_with fail; have hE0 : Keeps NoB w16 w16.drew := (Keeps.refl _ _).drew; refine rgE [(0, 0), (3, 1), (0, 2), (0, 3), (0, 4), (0, 5), (3, 6), (0, 7), (0, 8), (0, 9), (0, 10), (0, 11), (3, 12), (0, 13), (0, 14)] [] [] [] ?_; simp only [planL, nL]; iterate 7 (first | (refine pM _ rfl rfl ?_; simp only [nP, nE]) | (refine pR (by rfl) (fun W => by go_simp <;> with_reducible rfl) ?_; simp only [nP]) | (refine pX (by rfl) (by go_simp <;> with_reducible rfl) ?_; simp only [nP]))
          iterate 3 ((refine pM _ rfl rfl ?_; simp only [nP, nE]))
          iterate 2 ((refine pR rfl (fun W => by go_simp <;> with_reducible rfl) ?_; simp only [nP]))
          iterate 3 (first | (refine pR (by rfl) (fun W => by go_simp <;> with_reducible rfl) ?_; simp only [nP]) | (refine pX (by rfl) (by go_simp <;> with_reducible rfl) ?_; simp only [nP]))
          refine plan_nil ?_; simp only [tailL, List.filterMap_nil]; clear f0 f1 f2 f3 hq1 hwj; have hw3 := HW3.out; go_wp2_with fail; clear fM; clear hw3; rw [← HSA.out] at HM; go_roundw
          case rel =>
           refine ⟨k + 1, off, _, _, by omega, rfl, by rw [HSN.out, HST.out, HW3.out], by go_num, Hd ?_, Hd ?_, Hd ?_⟩
           · rw [HSN.out]
             exact HLN.out
           · exact Nat.le_succ_of_le HLE.out
           · rw [HSN.out]
             exact Mem.sub HM.out.drew (by repeat first | exact Sub.nil | refine Sub.cons (by with_reducible repeat first | exact ph | apply pt) ?_)
          case measure => simp [intOf]; omega
    by_cases c4 : x.what = 4
    · skip
      obtain ⟨i, hi⟩ : ∃ n, s.acked + nearI x.index = n := ⟨_, rfl⟩
      have hiw : IntKind.i64.wrap (s.acked + nearI x.index) = i := by
       rw [hi]; have := near_le x.index; have := HOK.out.next0; have := HOK.out.next1; have := HOK.out.ack0; have := HOK.out.sent0; exact IntWalk.i64_in _ (by omega)
      have HSA := Hd (show s.act x = (s.ack i now).1 by rw [act_h s x c4, hi, HNOW.out]); have HLN := Hd (show Lw (s.act x) fr off by rw [HSA.out]; exact HLW.out.ack _ _); have HST := Hd (show (s.act x).sent = s.sent by rw [HSA.out]; exact (ack_sent _ _ _).1); clear hi; have fM := HM.out.fa; go_wp2_with fail; all_goals clear fM
      refine nxt HM fun w13 M => ?_
      replace HM := M; clear M; obtain ⟨_, hBk⟩ := HM.out.get (r := cellsR kt 68 s.state) pk; have HBT := Hd hBk.2; clear hBk; obtain ⟨_, hBk⟩ := HM.out.get (r := cellsR kx 79 x.cells) pk; have HBX := Hd hBk.2; clear hBk; have fM := HM.out.fa; go_wp2_with fail; have HFN := Hd (show w13.cell? ⟨kt, 4, none⟩ = some (.int .i64 s.acked) from HBT.out.reads.1 4); have hE0 : Keeps (fun k => ¬ (k = kt ∨ k = kx)) w13 w13.drew := (Keeps.refl _ _).drew; refine rgK (fun k => ¬ (k = kt ∨ k = kx)) [(0, 0), (0, 1), (1, 2), (0, 3), (3, 4), (0, 7), (2, 5), (0, 6)] [2] [5, 8] [8] ?_; simp only [planL, nL]; refine pM _ rfl rfl ?_; simp only [nP, nE]; refine pR rfl (fun W => by go_simp <;> with_reducible rfl) ?_; simp only [nP]; refine pK (v := .int .i64 s.acked) rfl (fun y => elM' 2 _ rfl rfl (ld_i64 y.w kt 4 _ (y.h.cell (fun h => h (.inl rfl)) HFN.out))) ?_; simp only [nP]; refine pR rfl (fun W => by go_simp <;> with_reducible rfl) ?_; simp only [nP]; refine pX rfl (by go_simp <;> with_reducible rfl) ?_; simp only [nP]; refine pM _ rfl rfl ?_; simp only [nP, nE]; refine plan_does rfl (fun K hK => ?_); go_wp2_with fail; skip
      replace HM := Hd HM.out.drew; refine cret (near_any _ _) ?_; refine hK _ _ ⟨ClsK.of (by assumption), ?_⟩; clear hK K; try simp only [nP]
      refine pR rfl (fun W => by go_simp <;> with_reducible rfl) ?_; simp only [nP]; refine plan_nil ?_; simp only [tailL, List.filterMap_cons, List.filterMap_nil, nL]; change wpList _ _ _ (_ :: []) _ _; go_wp2_with fail; skip
      obtain ⟨A', hA', hAF, hZ, hblk⟩ := (HM.out.pick (r := sesR sb s) pk).step2; have hn1 := hblk kt _ _ _ (by with_reducible repeat first | exact ph | apply pt); have hn2 := hblk kx _ _ _ (by with_reducible repeat first | exact ph | apply pt); refine (ack_any _ sb s i now hA').mono ?_; rintro r wz ⟨rfl, hU⟩; have hE7 := hE0.then hU.keepsTo (fun i _ h e => e.elim (fun e => hn1 (e ▸ h)) (fun e => hn2 (e ▸ h))); replace HM := Hd (hZ _ _ hU); clear hA' hAF hZ hblk hn1 hn2 hU; clear A'; clear fM; clear hiw hE0 hE7; have fM := HM.out.fa; go_wp2_with fail; all_goals clear fM
      rw [← HSA.out] at HM; go_roundw
      case rel =>
       refine ⟨k + 1, off, _, _, by omega, rfl, by rw [HSN.out, HST.out], by go_num, Hd ?_, Hd ?_, Hd ?_⟩
       · rw [HSN.out]
         exact HLN.out
       · exact Nat.le_succ_of_le HLE.out
       · rw [HSN.out]
         exact Mem.sub HM.out (by repeat first | exact Sub.nil | refine Sub.cons (by with_reducible repeat first | exact ph | apply pt) ?_)
      case measure => simp [intOf]; omega
    by_cases c5 : x.what = 5
    · skip
      have HSA := Hd (act_i s x c5); have HLN := Hd (show Lw (s.act x) fr off by rw [HSA.out]; exact HLW.out.hear _); have HST := Hd (show (s.act x).sent = s.sent by rw [HSA.out]; exact (hear_sent _ _).1); have fM := HM.out.fa; go_wp2_with fail; all_goals clear fM
      refine nxt HM fun w13 M => ?_
      replace HM := M; clear M; obtain ⟨A', hA', hAF, hZ, hblk⟩ := (HM.out.pick (r := sesR sb s) pk).step2; refine (hear_any w13 sb s now hA').mono ?_; rintro r wz ⟨rfl, hU⟩; replace HM := Hd (hZ _ _ hU); clear hA' hAF hZ hblk hU; clear A'; have fM := HM.out.fa; go_wp2_with fail; all_goals clear fM
      rw [← HNOW.out, ← HSA.out] at HM; go_roundw
      case rel =>
       refine ⟨k + 1, off, _, _, by omega, rfl, by rw [HSN.out, HST.out], by go_num, Hd ?_, Hd ?_, Hd ?_⟩
       · rw [HSN.out]
         exact HLN.out
       · exact Nat.le_succ_of_le HLE.out
       · rw [HSN.out]
         exact Mem.sub HM.out (by repeat first | exact Sub.nil | refine Sub.cons (by with_reducible repeat first | exact ph | apply pt) ?_)
      case measure => simp [intOf]; omega
    by_cases c6 : x.what = 6
    · skip
      have HSA := Hd (act_j s x c6); have HLN := Hd (show Lw (s.act x) fr off by rw [HSA.out]; exact HLW.out.close _); have HST := Hd (show (s.act x).sent = s.sent by rw [HSA.out]; exact (close_sent _ _).1); have fM := HM.out.fa; go_wp2_with fail; all_goals clear fM
      refine nxt HM fun w13 M => ?_
      replace HM := M; clear M; obtain ⟨A', hA', hAF, hZ, hblk⟩ := (HM.out.pick (r := sesR sb s) pk).step2; refine (close_any w13 sb s x.index hA' (tabX_ok.step (show TabX NoB w from ⟨HT.out, noB _, noB _⟩) HM.out.keepsTo hAF)).mono ?_; rintro r wz ⟨rfl, hU⟩; replace HM := Hd (hZ _ _ hU); clear hA' hAF hZ hblk hU; clear A'; have fM := HM.out.fa; go_wp2_with fail; all_goals clear fM
      rw [← HSA.out] at HM; go_roundw
      case rel =>
       refine ⟨k + 1, off, _, _, by omega, rfl, by rw [HSN.out, HST.out], by go_num, Hd ?_, Hd ?_, Hd ?_⟩
       · rw [HSN.out]
         exact HLN.out
       · exact Nat.le_succ_of_le HLE.out
       · rw [HSN.out]
         exact Mem.sub HM.out (by repeat first | exact Sub.nil | refine Sub.cons (by with_reducible repeat first | exact ph | apply pt) ?_)
      case measure => simp [intOf]; omega
    have HLN := Hd (show Lw (s.act x) fr off by rw [act_k s x c0 c1 c2 c3 c4 c5 c6]; exact HLW.out); have HST := Hd (show (s.act x).sent = s.sent by rw [act_k s x c0 c1 c2 c3 c4 c5 c6]); have HSA := Hd (act_k s x c0 c1 c2 c3 c4 c5 c6); have fM := HM.out.fa; go_wp2_with fail; all_goals clear fM
    replace HM := Hd (show Mem NoB w w12.drew [sesR sb (s.act x), rowR tenE (.slice a off.length c) off] from by
     rw [HSA.out]; exact Mem.sub HM.out.drew (by repeat first | exact Sub.nil | refine Sub.cons (by with_reducible repeat first | exact ph | apply pt) ?_))
    go_roundw
    case rel =>
     refine ⟨k + 1, off, _, _, by omega, rfl, by rw [HSN.out, HST.out], by go_num, Hd ?_, Hd ?_, Hd ?_⟩
     · rw [HSN.out]
       exact HLN.out
     · exact Nat.le_succ_of_le HLE.out
     · rw [HSN.out]
       exact Mem.sub HM.out (by repeat first | exact Sub.nil | refine Sub.cons (by with_reducible repeat first | exact ph | apply pt) ?_)
    case measure => simp [intOf]; omega
  · obtain rfl : k = ls.length := by omega
    have fM := HM.out.fa; go_wp2_with fail; all_goals clear fM
    refine nxt HM fun w8 M => ?_
    replace HM := M; clear M; refine (works_any w8 (HT.out.ext HM.out.extTo)).mono ?_; rintro r w9 ⟨rfl, hE⟩; replace HM := Hd (HM.out.ext hE); clear hE; have fM := HM.out.fa; go_wp2_with fail; all_goals clear fM
    go_ret; exact ⟨rfl, HM.out.extTo⟩
theorem tells_walk {A : Nat → Prop} (w : World) (v : Value) (ls : List Sc) (fr most : Int) (h : Scs w A v ls) (hl : ls.length ≤ 9223372036854775807) (hT : Tabs w) :
 Calls Tryz.prog 6 #[.int .i64 fr, .int .i64 most, v] w fun r w' => r = .returned (.bool true) ∧ Ext w w' := by
 cases hf : fewS ls 80
 · exact tells_few w v ls fr most h hl hT hf
 by_cases h1 : fr < 0
 · exact tells_neg w v ls fr most h hl hT hf h1
 by_cases h2 : 1000000000 < fr
 · exact tells_far w v ls fr most h hl hT hf h1 h2
 cases hn : newOk 3 1 fr most 10 0
 · exact tells_no w v ls fr most h hl hT hf h1 h2 hn
 exact tells_in w v ls fr most h hl hT hf h1 h2 hn
end
end Go.Proofs.YtoadjbgpfihoiaaGreatDoor
