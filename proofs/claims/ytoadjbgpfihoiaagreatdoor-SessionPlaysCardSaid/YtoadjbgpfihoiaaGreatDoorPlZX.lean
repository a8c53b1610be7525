/- Texts SPlays, one behind the other. Conditions: as each says. -/
import Derived.Test.YtoadjbgpfihoiaaGreatDoorPlZW
import Derived.BigGuardIn
set_option linter.unusedVariables false
set_option linter.unusedSimpArgs false
set_option maxHeartbeats 8000000
set_option maxRecDepth 100000
namespace Go.Proofs.YtoadjbgpfihoiaaGreatDoor
open Go.RowKit
section
attribute [local go_sem] Oper.semAt_some eq_st ne_st gd_st
def noneR (p : Option Addr) : Res := anyR (fun F w => (p = none ∧ ∀ k, ¬ F k) ∨ ∃ b, p = some ⟨b, 0, none⟩ ∧ F b ∧ w.cell? ⟨b, 0, none⟩ = some (.pointer none) ∧ ∀ k, F k → k < w.heap.size)
 (fun h hk hs => h.imp id fun ⟨b, h1, h2, h3, h4⟩ => ⟨b, h1, h2, hk.cell (hs b h2) h3, fun k hF => Nat.lt_of_lt_of_le (h4 k hF) hk.size⟩) (fun h k hF => by
  rcases h with ⟨-, h⟩ | ⟨b, -, -, -, h⟩
  · exact (h k hF).elim
  · exact h k hF)
theorem noneR.no {A : Nat → Prop} {w : World} {p : Option Addr} (h : (noneR p).p A w) : NoS w p := h.imp (·.1) fun ⟨b, h1, _, h3, _⟩ => ⟨b, h1, h3⟩
theorem Mem.noneNil {F : Nat → Prop} {w0 w : World} {L : List Res} (h : Mem F w0 w L) : Mem F w0 w (noneR none :: L) :=
 h.new (r := noneR none) (G := NoB) (Keeps.refl _ _) (.inl ⟨rfl, fun k h => noB _ h⟩) (fun k h => (noB _ h).elim)
theorem Mem.noneBox {F : Nat → Prop} {w0 w : World} {L : List Res} {b : Nat} {t : TypeId} {l : List Value} (h : Mem F w0 w (cellsR b t (.pointer none :: l) :: L)) : Mem F w0 w (noneR (some ⟨b, 0, none⟩) :: L) :=
 h.turn fun A hA => .inr ⟨b, rfl, (hA.1 b).2 rfl, hA.2.reads.1 0, Res.lt _ hA⟩
theorem plays_few {A : Nat → Prop} (w : World) (v : Value) (ls : List Sc) (member number fr most wait now : Int) (h : Scs w A v ls) (hl : ls.length ≤ 9223372036854775807) (hA : ∀ k, A k → k < w.heap.size) (hT : Tabs w) (hf : fewS ls 60 = false) :
 Calls Tryz.prog 7 #[.int .i64 member, .int .i64 number, .int .i64 fr, .int .i64 most, .int .i64 wait, .int .i64 now, v] w fun r w' => r = .returned (.bool true) ∧ Ext w w' := by
 have HV := Hd h; have HL := Hd hl; have HA := Hd hA; have HT := Hd hT; have HM := Hd (Mem.start0 w); have HF := Hd hf; obtain ⟨a0, c0, rfl⟩ := h.len; clear h hl hA hT hf; go_enter Tryz.func7, Tryz.ntmps7
 have fM := HM.out.fa; go_wp2_with fail; all_goals clear fM
 refine (few_s w _ ls 60 HV.out HL.out).mono ?_; rintro r w2 ⟨rfl, hE⟩; rw [HF.out]; replace HM := Hd (HM.out.ext hE); clear hE; have fM := HM.out.fa; go_wp2_with fail; all_goals clear fM
 refine nxt HM fun w8 M => ?_
 replace HM := M; clear M; refine (works_any w8 (HT.out.ext HM.out.extTo)).mono ?_; rintro r w9 ⟨rfl, hE⟩; replace HM := Hd (HM.out.ext hE); clear hE; have fM := HM.out.fa; go_wp2_with fail; all_goals clear fM
 go_ret; exact ⟨rfl, HM.out.extTo⟩
theorem plays_no {A : Nat → Prop} (w : World) (v : Value) (ls : List Sc) (member number fr most wait now : Int) (h : Scs w A v ls) (hl : ls.length ≤ 9223372036854775807) (hA : ∀ k, A k → k < w.heap.size) (hT : Tabs w) (hf : fewS ls 60 = true) (hn : newOk member number fr most wait now = false) :
 Calls Tryz.prog 7 #[.int .i64 member, .int .i64 number, .int .i64 fr, .int .i64 most, .int .i64 wait, .int .i64 now, v] w fun r w' => r = .returned (.bool true) ∧ Ext w w' := by
 have HN := Hd hn; clear hn; have HV := Hd h; have HL := Hd hl; have HA := Hd hA; have HT := Hd hT; have HM := Hd (Mem.start0 w); have HF := Hd hf; obtain ⟨a0, c0, rfl⟩ := h.len; clear h hl hA hT hf; go_enter Tryz.func7, Tryz.ntmps7
 have fM := HM.out.fa; go_wp2_with fail; all_goals clear fM
 refine (few_s w _ ls 60 HV.out HL.out).mono ?_; rintro r w2 ⟨rfl, hE⟩; rw [HF.out]; replace HM := Hd (HM.out.ext hE); clear hE; have fM := HM.out.fa; go_wp2_with fail; all_goals clear fM
 refine nxt HM fun w3 M => ?_
 replace HM := M; clear M; refine (snew_no w3 member number fr most wait now HN.out).mono ?_; rintro r w4 ⟨rfl, hE⟩; replace HM := Hd (HM.out.ext hE); clear hE; have fM := HM.out.fa; go_wp2_with fail; all_goals clear fM
 refine nxt HM fun w5 M => ?_
 replace HM := M; clear M; refine (dnew_none w5 member number fr most wait now HN.out).mono ?_; rintro r w6 ⟨⟨cs, hcs, rfl⟩, hE⟩; replace HM := Hd (HM.out.ext hE); clear hE; have fM := HM.out.fa; go_wp2_with (((with_reducible refine at_alloc 73 rfl ?_); refine alW 73 rfl rfl (zeroDS _) HM.out ?_; intro w9 n9 M); replace HM := Hd M; clear M fM; have fM := HM.out.fa; refine standing ?_); all_goals clear fM
 rename Nat => kw
 refine ⟨?_⟩; have fM := HM.out.fa; go_wp2_with (((with_reducible refine at_store 73 _ _ rfl ?_); refine stW 73 _ _ rfl rfl rfl rfl HM.out infoDS ?_; intro w9 M); replace HM := Hd M; clear M fM; have fM := HM.out.fa; refine standing ?_); all_goals clear fM
 refine ⟨?_⟩; go_upto_region 6 with fail
 refine nxt HM fun w7 M => ?_
 replace HM := M; clear M; go_cut [54] from 51 to 54 (fun x wx => ∃ qb : Bool, x = .bool qb ∧ w7 = wx)
 case first =>
  go_wp2_with fail; go_meet
  case rel => exact ⟨_, rfl, rfl⟩
 obtain ⟨qb, rfl, rfl⟩ := hcut; go_upto_if 54 with fail
 go_cut [19] from 54 to 56 (fun x wx => ∃ p, x = .pointer p ∧ Hid (Mem NoB w wx (noneR p :: [cellsR kw 73 cs])))
 case first =>
  cases qb
  · go_wp2_with fail
    go_meet
    case rel => exact ⟨none, rfl, Hd (Mem.sub HM.out.noneNil sbI)⟩
  · skip
    have fM := HM.out.fa; go_wp2_with (((with_reducible refine at_box 99 _ rfl ?_); refine boW 99 _ rfl rfl rfl HM.out ?_; intro w9 n9 M); replace HM := Hd M; clear M fM; have fM := HM.out.fa); all_goals clear fM
    rename Nat => kz
    refine nxt HM fun w8 M => ?_
    replace HM := M; clear M; go_meet
    case rel => exact ⟨some ⟨kz, 0, none⟩, rfl, Hd (Mem.sub HM.out.noneBox sbI)⟩
 clear HM; obtain ⟨p, rfl, HM⟩ := hcut; obtain ⟨wk, hwk⟩ : ∃ x, x = wc := ⟨_, rfl⟩; subst hwk; have fM := HM.out.fa; go_wp2_with fail; all_goals clear fM
 refine nxt HM fun w9 M => ?_
 replace HM := M; clear M; obtain ⟨AhN, hN⟩ := HM.out.get (r := noneR p) pk; refine (nbeside_any w9 p (Sd.of 11) (by show I64 11; unfold I64; decide) (noneR.no hN)).mono ?_; rintro r wz ⟨rfl, hE⟩; replace HM := Hd (HM.out.ext hE); clear hE hN; have fM := HM.out.fa; go_wp2_with fail; all_goals clear fM
 refine nxt HM fun w10 M => ?_
 replace HM := M; clear M; obtain ⟨AhN, hN⟩ := HM.out.get (r := noneR p) pk; refine (ntake_any w10 p (noneR.no hN)).mono ?_; rintro r wz ⟨rfl, hE⟩; replace HM := Hd (HM.out.ext hE); clear hE hN; have fM := HM.out.fa; go_wp2_with fail; all_goals clear fM
 refine nxt HM fun w11 M => ?_
 replace HM := M; clear M; obtain ⟨AhN, hN⟩ := HM.out.get (r := noneR p) pk; refine (noffer_any w11 p 0 ⟨0, 0, 0, []⟩ [] (noneR.no hN)).mono ?_; rintro r wz ⟨rfl, hE⟩; replace HM := Hd (HM.out.ext hE); clear hE hN; have fM := HM.out.fa; go_wp2_with fail; all_goals clear fM
 refine cret (snum_any _ _) ?_; have fM := HM.out.fa; go_wp2_with fail; all_goals clear fM
 refine nxt HM fun w12 M => ?_
 replace HM := M; clear M; obtain ⟨AhN, hN⟩ := HM.out.get (r := noneR p) pk; refine (nreach_any w12 p 0 (noneR.no hN)).mono ?_; rintro r wz ⟨rfl, hE⟩; replace HM := Hd (HM.out.ext hE); clear hE hN; have fM := HM.out.fa; go_wp2_with fail; all_goals clear fM
 refine cret (snum_any _ _) ?_; have fM := HM.out.fa; go_wp2_with fail; all_goals clear fM
 refine cret (snum_any _ _) ?_; have fM := HM.out.fa; go_wp2_with fail; all_goals clear fM
 refine nxt HM fun w13 M => ?_
 replace HM := M; clear M; obtain ⟨AhN, hN⟩ := HM.out.get (r := noneR p) pk; refine (nack_any w13 p 0 0 (noneR.no hN)).mono ?_; rintro r wz ⟨rfl, hE⟩; replace HM := Hd (HM.out.ext hE); clear hE hN; have fM := HM.out.fa; go_wp2_with fail; all_goals clear fM
 refine cret (snum_any _ _) ?_; have fM := HM.out.fa; go_wp2_with fail; all_goals clear fM
 refine nxt HM fun w14 M => ?_
 replace HM := M; clear M; obtain ⟨AhN, hN⟩ := HM.out.get (r := noneR p) pk; refine (nhear_any w14 p 0 (noneR.no hN)).mono ?_; rintro r wz ⟨rfl, hE⟩; replace HM := Hd (HM.out.ext hE); clear hE hN; have fM := HM.out.fa; go_wp2_with fail; all_goals clear fM
 refine cret (snum_any _ _) ?_; have fM := HM.out.fa; go_wp2_with fail; all_goals clear fM
 refine nxt HM fun w15 M => ?_
 replace HM := M; clear M; obtain ⟨AhN, hN⟩ := HM.out.get (r := noneR p) pk; refine (nsilent_any w15 p 0 (noneR.no hN)).mono ?_; rintro r wz ⟨rfl, hE⟩; replace HM := Hd (HM.out.ext hE); clear hE hN; have fM := HM.out.fa; go_wp2_with fail; all_goals clear fM
 refine nxt HM fun w16 M => ?_
 replace HM := M; clear M; obtain ⟨AhN, hN⟩ := HM.out.get (r := noneR p) pk; refine (nclose_any w16 p 0 (noneR.no hN)).mono ?_; rintro r wz ⟨rfl, hE⟩; replace HM := Hd (HM.out.ext hE); clear hE hN; have fM := HM.out.fa; go_wp2_with fail; all_goals clear fM
 refine cret (snum_any _ _) ?_; have fM := HM.out.fa; go_wp2_with fail; all_goals clear fM
 have hz := fun W => ne_sv ⟨0, 0, 0, 0, 0, 0, false, false, 0⟩ ⟨0, 0, 0, 0, 0, 0, false, false, 0⟩ W
 rw [decide_eq_true rfl] at hz; unfold Sv.v at hz; dsimp only at hz; refine nxt HM fun w17 M => ?_
 replace HM := M; clear M; obtain ⟨AhN, hN⟩ := HM.out.get (r := noneR p) pk; refine (nstate_any w17 p (noneR.no hN)).mono ?_; rintro r wz ⟨rfl, hE⟩; replace HM := Hd (HM.out.ext hE); clear hE hN; have fM := HM.out.fa; go_wp2_with fail; all_goals clear fM
 clear hz; refine nxt HM fun w18 M => ?_
 replace HM := M; clear M; obtain ⟨AhN, hN⟩ := HM.out.get (r := noneR p) pk; refine (ncopy_any w18 p (noneR.no hN)).mono ?_; rintro r wz ⟨rfl, hE⟩; replace HM := Hd (HM.out.ext hE); clear hE hN; have fM := HM.out.fa; go_wp2_with fail; all_goals clear fM
 refine nxt HM fun w19 M => ?_
 replace HM := M; clear M; obtain ⟨AhN, hN⟩ := HM.out.get (r := noneR p) pk; refine (nsame_any w19 p none (noneR.no hN) (.inl rfl)).mono ?_; rintro r wz ⟨rfl, hE⟩; replace HM := Hd (HM.out.ext hE); clear hE hN; have fM := HM.out.fa; go_wp2_with fail; all_goals clear fM
 refine cret (snum_any _ _) ?_; have fM := HM.out.fa; go_wp2_with fail; all_goals clear fM
 refine nxt HM fun w8 M => ?_
 replace HM := M; clear M; refine (works_any w8 (HT.out.ext HM.out.extTo)).mono ?_; rintro r w9 ⟨rfl, hE⟩; replace HM := Hd (HM.out.ext hE); clear hE; have fM := HM.out.fa; go_wp2_with fail; all_goals clear fM
 go_ret; exact ⟨rfl, HM.out.extTo⟩
theorem plays_yes {A : Nat → Prop} (w : World) (v : Value) (ls : List Sc) (member number fr most wait now : Int) (h : Scs w A v ls) (hl : ls.length ≤ 9223372036854775807) (hA : ∀ k, A k → k < w.heap.size) (hT : Tabs w) (hf : fewS ls 60 = true) (hn : newOk member number fr most wait now = true) :
 Calls Tryz.prog 7 #[.int .i64 member, .int .i64 number, .int .i64 fr, .int .i64 most, .int .i64 wait, .int .i64 now, v] w fun r w' => r = .returned (.bool true) ∧ Ext w w' := by
 have HN := Hd hn; obtain ⟨s0, hs0⟩ : ∃ s, newS member number fr most.toNat wait now = s := ⟨_, rfl⟩; have hok0 := (new_ok hn).1; rw [hs0] at hok0; have HS0 := Hd hs0; have HOK0 := Hd hok0; clear hn hs0 hok0; have HV := Hd h; have HL := Hd hl; have HA := Hd hA; have HT := Hd hT; have HM := Hd (Mem.start0 w); have HF := Hd hf; obtain ⟨a0, c0, rfl⟩ := h.len; clear h hl hA hT hf; go_enter Tryz.func7, Tryz.ntmps7
 have fM := HM.out.fa; go_wp2_with fail; all_goals clear fM
 refine (few_s w _ ls 60 HV.out HL.out).mono ?_; rintro r w2 ⟨rfl, hE⟩; rw [HF.out]; replace HM := Hd (HM.out.ext hE); clear hE; have fM := HM.out.fa; go_wp2_with fail; all_goals clear fM
 refine nxt HM fun w3 M => ?_
 replace HM := M; clear M; refine (snew_yes w3 member number fr most wait now HN.out).mono ?_; rintro r w4 ⟨sb, rfl, hU⟩; rw [HS0.out] at hU; replace HM := Hd (HM.out.newU hU); clear hU; have fM := HM.out.fa; go_wp2_with fail; all_goals clear fM
 refine nxt HM fun w5 M => ?_
 replace HM := M; clear M; refine (dnew_yes w5 member number fr most wait now HN.out).mono ?_; rintro r w6 ⟨dv, rfl, hD, hE⟩; rw [HS0.out] at hD; obtain ⟨a, c, pd, q, rfl⟩ := doc_form hD; replace HM := Hd (HM.out.docNew hD hE); clear hD hE; have fM := HM.out.fa; go_wp2_with (((with_reducible refine at_alloc 73 rfl ?_); refine alW 73 rfl rfl (zeroDS _) HM.out ?_; intro w9 n9 M); replace HM := Hd M; clear M fM; have fM := HM.out.fa; refine standing ?_); all_goals clear fM
 rename Nat => kw
 refine ⟨?_⟩; have fM := HM.out.fa; go_wp2_with (((with_reducible refine at_store 73 _ _ rfl ?_); refine stW 73 _ _ rfl rfl rfl rfl HM.out infoDS ?_; intro w9 M); replace HM := Hd M; clear M fM; have fM := HM.out.fa; refine standing ?_); all_goals clear fM
 refine ⟨?_⟩; go_upto_region 6 with fail
 refine nxt HM fun w7 M => ?_
 replace HM := M; clear M; go_cut [54] from 51 to 54 (fun x wx => ∃ qb : Bool, x = .bool qb ∧ w7 = wx)
 case first =>
  go_wp2_with fail; go_meet
  case rel => exact ⟨_, rfl, rfl⟩
 obtain ⟨qb, rfl, rfl⟩ := hcut; go_upto_if 54 with fail
 go_cut [19] from 54 to 56 (fun x wx => ∃ p, x = .pointer p ∧ Hid (Mem NoB w wx (noneR p :: [cellsR kw 73 (docC a c pd q s0), docsR [(.agg (docC a c pd q s0).toArray, s0)], sesR sb s0])))
 case first =>
  cases qb
  · go_wp2_with fail
    go_meet
    case rel => exact ⟨none, rfl, Hd (Mem.sub HM.out.noneNil sbI)⟩
  · skip
    have fM := HM.out.fa; go_wp2_with (((with_reducible refine at_box 99 _ rfl ?_); refine boW 99 _ rfl rfl rfl HM.out ?_; intro w9 n9 M); replace HM := Hd M; clear M fM; have fM := HM.out.fa); all_goals clear fM
    rename Nat => kz
    refine nxt HM fun w8 M => ?_
    replace HM := M; clear M; go_meet
    case rel => exact ⟨some ⟨kz, 0, none⟩, rfl, Hd (Mem.sub HM.out.noneBox sbI)⟩
 clear HM; obtain ⟨p, rfl, HM⟩ := hcut; obtain ⟨wk, hwk⟩ : ∃ x, x = wc := ⟨_, rfl⟩; subst hwk; have fM := HM.out.fa; go_wp2_with fail; all_goals clear fM
 refine nxt HM fun w9 M => ?_
 replace HM := M; clear M; obtain ⟨AhN, hN⟩ := HM.out.get (r := noneR p) pk; refine (nbeside_any w9 p (Sd.of 11) (by show I64 11; unfold I64; decide) (noneR.no hN)).mono ?_; rintro r wz ⟨rfl, hE⟩; replace HM := Hd (HM.out.ext hE); clear hE hN; have fM := HM.out.fa; go_wp2_with fail; all_goals clear fM
 refine nxt HM fun w10 M => ?_
 replace HM := M; clear M; obtain ⟨AhN, hN⟩ := HM.out.get (r := noneR p) pk; refine (ntake_any w10 p (noneR.no hN)).mono ?_; rintro r wz ⟨rfl, hE⟩; replace HM := Hd (HM.out.ext hE); clear hE hN; have fM := HM.out.fa; go_wp2_with fail; all_goals clear fM
 refine nxt HM fun w11 M => ?_
 replace HM := M; clear M; obtain ⟨AhN, hN⟩ := HM.out.get (r := noneR p) pk; refine (noffer_any w11 p 0 ⟨0, 0, 0, []⟩ [] (noneR.no hN)).mono ?_; rintro r wz ⟨rfl, hE⟩; replace HM := Hd (HM.out.ext hE); clear hE hN; have fM := HM.out.fa; go_wp2_with fail; all_goals clear fM
 refine cret (snum_any _ _) ?_; have fM := HM.out.fa; go_wp2_with fail; all_goals clear fM
 refine nxt HM fun w12 M => ?_
 replace HM := M; clear M; obtain ⟨AhN, hN⟩ := HM.out.get (r := noneR p) pk; refine (nreach_any w12 p 0 (noneR.no hN)).mono ?_; rintro r wz ⟨rfl, hE⟩; replace HM := Hd (HM.out.ext hE); clear hE hN; have fM := HM.out.fa; go_wp2_with fail; all_goals clear fM
 refine cret (snum_any _ _) ?_; have fM := HM.out.fa; go_wp2_with fail; all_goals clear fM
 refine cret (snum_any _ _) ?_; have fM := HM.out.fa; go_wp2_with fail; all_goals clear fM
 refine nxt HM fun w13 M => ?_
 replace HM := M; clear M; obtain ⟨AhN, hN⟩ := HM.out.get (r := noneR p) pk; refine (nack_any w13 p 0 0 (noneR.no hN)).mono ?_; rintro r wz ⟨rfl, hE⟩; replace HM := Hd (HM.out.ext hE); clear hE hN; have fM := HM.out.fa; go_wp2_with fail; all_goals clear fM
 refine cret (snum_any _ _) ?_; have fM := HM.out.fa; go_wp2_with fail; all_goals clear fM
 refine nxt HM fun w14 M => ?_
 replace HM := M; clear M; obtain ⟨AhN, hN⟩ := HM.out.get (r := noneR p) pk; refine (nhear_any w14 p 0 (noneR.no hN)).mono ?_; rintro r wz ⟨rfl, hE⟩; replace HM := Hd (HM.out.ext hE); clear hE hN; have fM := HM.out.fa; go_wp2_with fail; all_goals clear fM
 refine cret (snum_any _ _) ?_; have fM := HM.out.fa; go_wp2_with fail; all_goals clear fM
 refine nxt HM fun w15 M => ?_
 replace HM := M; clear M; obtain ⟨AhN, hN⟩ := HM.out.get (r := noneR p) pk; refine (nsilent_any w15 p 0 (noneR.no hN)).mono ?_; rintro r wz ⟨rfl, hE⟩; replace HM := Hd (HM.out.ext hE); clear hE hN; have fM := HM.out.fa; go_wp2_with fail; all_goals clear fM
 refine nxt HM fun w16 M => ?_
 replace HM := M; clear M; obtain ⟨AhN, hN⟩ := HM.out.get (r := noneR p) pk; refine (nclose_any w16 p 0 (noneR.no hN)).mono ?_; rintro r wz ⟨rfl, hE⟩; replace HM := Hd (HM.out.ext hE); clear hE hN; have fM := HM.out.fa; go_wp2_with fail; all_goals clear fM
 refine cret (snum_any _ _) ?_; have fM := HM.out.fa; go_wp2_with fail; all_goals clear fM
 have hz := fun W => ne_sv ⟨0, 0, 0, 0, 0, 0, false, false, 0⟩ ⟨0, 0, 0, 0, 0, 0, false, false, 0⟩ W
 rw [decide_eq_true rfl] at hz; unfold Sv.v at hz; dsimp only at hz; refine nxt HM fun w17 M => ?_
 replace HM := M; clear M; obtain ⟨AhN, hN⟩ := HM.out.get (r := noneR p) pk; refine (nstate_any w17 p (noneR.no hN)).mono ?_; rintro r wz ⟨rfl, hE⟩; replace HM := Hd (HM.out.ext hE); clear hE hN; have fM := HM.out.fa; go_wp2_with fail; all_goals clear fM
 clear hz; refine nxt HM fun w18 M => ?_
 replace HM := M; clear M; obtain ⟨AhN, hN⟩ := HM.out.get (r := noneR p) pk; refine (ncopy_any w18 p (noneR.no hN)).mono ?_; rintro r wz ⟨rfl, hE⟩; replace HM := Hd (HM.out.ext hE); clear hE hN; have fM := HM.out.fa; go_wp2_with fail; all_goals clear fM
 refine nxt HM fun w19 M => ?_
 replace HM := M; clear M; obtain ⟨AhN, hN⟩ := HM.out.get (r := noneR p) pk; refine (nsame_any w19 p none (noneR.no hN) (.inl rfl)).mono ?_; rintro r wz ⟨rfl, hE⟩; replace HM := Hd (HM.out.ext hE); clear hE hN; have fM := HM.out.fa; go_wp2_with fail; all_goals clear fM
 refine nxt HM fun w20 M => ?_
 replace HM := M; clear M; obtain ⟨_, hBk⟩ := HM.out.get (r := cellsR kw 73 (docC a c pd q s0)) pk; have HB0 := Hd hBk.2; clear hBk; have fM := HM.out.fa; go_wp2_with fail; have hE0 : Keeps (fun k => ¬ k = kw) w20 w20.drew := (Keeps.refl _ _).drew; refine rgK (fun k => ¬ k = kw) [(0, 0), (2, 1), (0, 2), (0, 3), (0, 4), (1, 6), (2, 5)] [6] [1, 5, 7, 8, 9] [7, 8, 9] ?_; simp only [planL, nL]; refine pM _ rfl rfl ?_; simp only [nP, nE]; refine plan_does rfl (fun K hK => ?_); go_wp2_with fail; replace HM := Hd HM.out.drew; refine cret (snum_any _ _) ?_; refine hK _ _ ⟨ClsK.of (by assumption), ?_⟩; clear hK K; try simp only [nP]
 iterate 3 (first | (refine pM _ rfl rfl ?_; simp only [nP, nE]) | (refine pR (by rfl) (fun W => by go_simp <;> with_reducible rfl) ?_; simp only [nP]))
 refine pK (v := .agg (docC a c pd q s0).toArray) rfl (fun y => elB 73 _ rfl rfl (HB0.out.keeps y.h (fun h => h rfl)) Tryz.underlying73 rfl infoDS) ?_; simp only [nP]; refine plan_does rfl (fun K hK => ?_); go_wp2_with fail; skip
 obtain ⟨Ahs, hs⟩ := HM.out.get (r := sesR sb s0) pk; refine (sst_any _ sb s0 _ HOK0.out hs).mono ?_; rintro r wy ⟨rfl, hE⟩; have hE2 := hE0.ext hE; replace HM := Hd (HM.out.ext hE); clear hE hs; refine hK _ _ ⟨ClsK.of (by assumption), ?_⟩; clear hK K; try simp only [nP]
 refine plan_nil ?_; simp only [tailL, List.filterMap_cons, List.filterMap_nil, nL]; change wpList _ _ _ (_ :: _ :: _ :: []) _ _; go_wp2_with fail; skip
 obtain ⟨Ahd, hd⟩ := HM.out.get (r := docsR [(.agg (docC a c pd q s0).toArray, s0)]) pk; refine (dst_any _ _ s0 _ HOK0.out (docs_at hd (List.mem_cons_self ..))).mono ?_; rintro r wx ⟨rfl, hE⟩; have hE3 := hE2.ext hE; replace HM := Hd (HM.out.ext hE); clear hE hd; clear fM; have fM := HM.out.fa; go_wp2_with fail; all_goals clear fM
 have hmost := fewS.len HF.out; go_loopw [24] (fun i wr => ∃ (k : Nat) (a : Option Addr) (c : Nat) (pd : Option Addr) (q : Nat), k ≤ ls.length ∧ i = .int .i64 k ∧ Hid (Mem NoB w wr [cellsR kw 73 (docC a c pd q (s0.acts (ls.take k))), docsR [(.agg (docC a c pd q (s0.acts (ls.take k))).toArray, s0.acts (ls.take k))], sesR sb (s0.acts (ls.take k)), noneR p])) (fun i _ => ls.length - (intOf i).toNat)
 case atStart =>
  refine ⟨0, a, c, pd, q, Nat.zero_le _, rfl, Hd ?_⟩; rw [show s0.acts (ls.take 0) = s0 from rfl]; exact Mem.sub HM.out sbI
 case round =>
  clear HM HB0; obtain ⟨k, a, c, pd, q, hk, rfl, HM⟩ := hrel; by_cases hlt : k < ls.length
  · have hok : OkSs (s0.acts (ls.take k)) k := by
     have := HOK0.out.acts (ls.take k); rw [List.length_take, Nat.min_eq_left hk, Nat.zero_add] at this; exact this
    have hsn := acts_snoc s0 ls k hlt; obtain ⟨g, o, rfl⟩ := HV.out.adr k hlt; have HLD := Hd (fun (y : World) (hy : Keeps (fun k => ¬ (k = kw ∨ k < w.heap.size)) wr y) => (HV.out.keeps ((Ext.keeps HM.out.extTo).then hy (fun i hi h => h)) (fun k hk h => h (.inr (HA.out k hk)))).ld k hlt); have hsc := HV.out.ok k hlt; have hsh := fewS.short HF.out k hlt; obtain ⟨z, hx⟩ : ∃ x, ls[k] = x := ⟨_, rfl⟩; rw [hx] at hsn HLD hsc hsh; obtain ⟨s, hs⟩ : ∃ s, s0.acts (ls.take k) = s := ⟨_, rfl⟩; rw [hs] at hok hsn HM; have HOK := Hd hok; have HSN := Hd hsn; have HSC := Hd hsc; have HSH := Hd hsh; have g1 : (k : Int) < (ls.length : Int) := by omega
    have g2 : ¬ (k : Int) < 0 := by omega
    clear hok hsn hsc hsh hx hs
    replace HM := Hd (Mem.list' (L1 := [sesR sb s, docsR [(.agg (docC a c pd q s).toArray, s)]]) (L := [cellsR kw 73 (docC a c pd q s), noneR p]) (Mem.sub (L' := [sesR sb s, docsR [(.agg (docC a c pd q s).toArray, s)], cellsR kw 73 (docC a c pd q s), noneR p]) HM.out sbI))
    obtain ⟨_, hBk⟩ := HM.out.get (r := cellsR kw 73 (docC a c pd q s)) pk
    have HBO := Hd hBk.2
    clear hBk
    have fM := HM.out.fa
    go_wp2_with fail
    have hE0 : Keeps (fun k => ¬ (k = kw ∨ k < w.heap.size)) wr wr.drew := (Keeps.refl _ _).drew
    refine wp_region_forks [1, 5] [6, 10, 11, 12] (ClsK (fun k => ¬ (k = kw ∨ k < w.heap.size)) wr) (by kernel_rfl) ?_
    refine any_seg (L := #[true, true, true, true, true, true, false, false, false, false, false, false, false]) [(0, 0), (1, 1), (0, 2), (0, 3), (0, 4), (1, 5)] 7 (by kernel_rfl) (fun _ _ _ d _ h => by cases d <;> exact h) (by kernel_rfl) (by kernel_rfl) rfl rfl (ClsK.of (by repeat (first | assumption | exact Keeps.refl _ _ | refine Keeps.alloc ?_ _ | refine Keeps.setOne ?_ _ _ | refine Keeps.setCell ?_ _ _ (.inl (by first | rfl | exact .inl rfl | exact .inr rfl | omega)) | refine Keeps.drew ?_))) ?_; simp only [planL, nL]
    refine pM _ rfl rfl ?_; simp only [nP, nE]
    refine pK (v := .agg (docC a c pd q s).toArray) rfl (fun y => elB 73 _ rfl rfl (HBO.out.keeps y.h (fun h => h (.inl rfl))) Tryz.underlying73 rfl infoDS) ?_; simp only [nP]
    iterate 2 (refine pM _ rfl rfl ?_; simp only [nP, nE])
    refine pR rfl (fun W => by go_simp <;> with_reducible rfl) ?_; simp only [nP]; refine pK (v := .agg z.cells.toArray) rfl (fun y => elM' 79 _ rfl rfl (HLD.out y.w y.h)) ?_; simp only [nP]; refine plan_nil ?_; refine any_fork 6 10 (by kernel_rfl) (by kernel_rfl) rfl rfl rfl rfl (fun K hK => ?_) (fun K hK => ?_)
    · skip
      go_wp2_with fail; skip
      replace HM := Hd HM.out.drew; obtain ⟨As, hAs, hAF, hZ, hblk⟩ := (HM.out.pick (r := listR [sesR sb s, docsR [(.agg (docC a c pd q s).toArray, s)]]) pk).step2; refine (act_any wr.drew sb s k HOK.out (by omega) _ [] z HSC.out HSH.out hAs (tabX_ok.step (show TabX NoB w from ⟨HT.out, noB _, noB _⟩) HM.out.keepsTo hAF)).mono ?_; rintro r w7 ⟨v1, rfl, hU⟩; have hn := hblk kw _ _ _ (by with_reducible repeat first | exact ph | apply pt)
      have hE7 := hE0.then hU.keepsTo (fun i _ h e => by
       rcases e with rfl | e
       · exact hn h
       · have := (hAF i h).resolve_left (noB _)
         omega)
      have hm7 := Mem.unlist (hZ _ _ hU); simp only [List.cons_append, List.nil_append] at hm7; obtain ⟨a1, c1, p1, q1, rfl⟩ := (hm7.pick (r := docsR [(v1, s.act z), (.agg (docC a c pd q s).toArray, s)]) pk).fact fun A h => doc_form (docs_at h (List.mem_cons_self ..))
      replace HM := Hd hm7; clear hm7 hU hZ hAs hAF hblk hn; clear As; refine hK _ _ ⟨ClsK.of (by assumption), ?_⟩; clear hK K; try simp only [nP]
      refine any_end [(0, 7), (0, 8), (0, 9), (2, 10)] [11, 12] (by kernel_rfl) (fun _ _ _ d _ h => by cases d <;> exact h) (by kernel_rfl) (by kernel_rfl) rfl rfl (ClsK.of (by repeat (first | assumption | exact Keeps.refl _ _ | refine Keeps.alloc ?_ _ | refine Keeps.setOne ?_ _ _ | refine Keeps.setCell ?_ _ _ (.inl (by first | rfl | exact .inl rfl | exact .inr rfl | omega)) | refine Keeps.drew ?_))) ?_; simp only [planL, nL]; refine pM _ rfl rfl ?_; simp only [nP, nE]; iterate 2 (refine pR rfl (fun W => by go_simp <;> with_reducible rfl) ?_; simp only [nP])
      refine plan_does rfl (fun K hK => ?_); refine oaK 73 rfl (zeroDS _) HM.out (wr := wr) (by repeat (first | assumption | exact Keeps.refl _ _ | with_reducible apply Keeps.drew | with_reducible apply Keeps.alloc)) fun w9 n9 M hE9 => ?_
      replace HM := Hd M; clear M; refine hK _ _ ⟨ClsK.of hE9, ?_⟩; clear hK K; try simp only [nP]
      refine plan_nil ?_; simp only [tailL, List.filterMap_cons, List.filterMap_nil, nL]; change wpList _ _ _ (_ :: _ :: []) _ _; skip
      clear fM; have fM := HM.out.fa; go_wp2_with (first | ((with_reducible refine at_load 73 _ rfl ?_); refine ldW 73 _ rfl rfl rfl HM.out Tryz.underlying73 rfl infoDS ?_) | (((with_reducible refine at_store 73 _ _ rfl ?_); refine stW 73 _ _ rfl rfl rfl rfl HM.out infoDS ?_; intro w9 M); replace HM := Hd M; clear M fM; have fM := HM.out.fa)); all_goals clear fM
      refine nxt HM fun w21 M => ?_
      replace HM := M; clear M; obtain ⟨_, hBk⟩ := HM.out.get (r := cellsR kw 73 (docC a1 c1 p1 q1 (s.act z))) pk; have HB2 := Hd hBk.2; clear hBk; have fM := HM.out.fa; go_wp2_with fail; have hE0 : Keeps (fun k => ¬ k = kw) w21 w21.drew := (Keeps.refl _ _).drew; refine rgK (fun k => ¬ k = kw) [(0, 0), (0, 1), (0, 2), (0, 3), (1, 5), (2, 4)] [5] [4, 6, 7, 8] [6, 7, 8] ?_; simp only [planL, nL]; iterate 4 (first | (refine pM _ rfl rfl ?_; simp only [nP, nE]) | (refine pR (by rfl) (fun W => by go_simp <;> with_reducible rfl) ?_; simp only [nP]))
      refine pK (v := .agg (docC a1 c1 p1 q1 (s.act z)).toArray) rfl (fun y => elB 73 _ rfl rfl (HB2.out.keeps y.h (fun h => h rfl)) Tryz.underlying73 rfl infoDS) ?_; simp only [nP]; refine plan_does rfl (fun K hK => ?_); go_wp2_with fail; replace HM := Hd HM.out.drew; obtain ⟨Ahs, hs⟩ := HM.out.get (r := sesR sb (s.act z)) pk; refine (sst_any _ sb (s.act z) _ (HOK.out.act z) hs).mono ?_; rintro r wy ⟨rfl, hE⟩; have hE2 := hE0.ext hE; replace HM := Hd (HM.out.ext hE); clear hE hs; refine hK _ _ ⟨ClsK.of (by assumption), ?_⟩; clear hK K; try simp only [nP]
      refine plan_nil ?_; simp only [tailL, List.filterMap_cons, List.filterMap_nil, nL]; change wpList _ _ _ (_ :: _ :: _ :: []) _ _; go_wp2_with fail; skip
      obtain ⟨Ahd, hd⟩ := HM.out.get (r := docsR [(.agg (docC a1 c1 p1 q1 (s.act z)).toArray, s.act z), (.agg (docC a c pd q s).toArray, s)]) pk; refine (dst_any _ _ (s.act z) _ (HOK.out.act z) (docs_at hd (List.mem_cons_self ..))).mono ?_; rintro r wx ⟨rfl, hE⟩; have hE3 := hE2.ext hE; replace HM := Hd (HM.out.ext hE); clear hE hd; clear fM; have fM := HM.out.fa; go_wp2_with fail; all_goals clear fM
      go_roundw
      case rel =>
       refine ⟨k + 1, a1, c1, p1, q1, by omega, by go_num, Hd ?_⟩; rw [HSN.out]; exact Mem.sub (docs_sub (m := [(.agg (docC a1 c1 p1 q1 (s.act z)).toArray, s.act z)]) (HM.out.pick (r := docsR [(.agg (docC a1 c1 p1 q1 (s.act z)).toArray, s.act z), (.agg (docC a c pd q s).toArray, s)]) pk) (by simp)) sbI
      case measure => simp [intOf]; omega
    · skip
      refine oaK 73 rfl (zeroDS _) HM.out (wr := wr) (by repeat (first | assumption | exact Keeps.refl _ _ | with_reducible apply Keeps.drew | with_reducible apply Keeps.alloc)) fun w9 n9 M hE9 => ?_
      replace HM := Hd M; clear M; refine hK _ _ ⟨ClsK.of hE9, ?_⟩; clear hK K; try simp only [nP]
      refine any_end [(2, 6), (0, 7), (0, 8), (0, 9)] [11, 12] (by kernel_rfl) (fun _ _ _ d _ h => by cases d <;> exact h) (by kernel_rfl) (by kernel_rfl) rfl rfl (ClsK.of (by repeat (first | assumption | exact Keeps.refl _ _ | refine Keeps.alloc ?_ _ | refine Keeps.setOne ?_ _ _ | refine Keeps.setCell ?_ _ _ (.inl (by first | rfl | exact .inl rfl | exact .inr rfl | omega)) | refine Keeps.drew ?_))) ?_; simp only [planL, nL]; refine plan_does rfl (fun K hK => ?_); go_wp2_with fail; skip
      obtain ⟨As, hAs, hAF, hZ, hblk⟩ := (HM.out.pick (r := listR [sesR sb s, docsR [(.agg (docC a c pd q s).toArray, s)]]) pk).step2; refine (act_any w9 sb s k HOK.out (by omega) _ [] z HSC.out HSH.out hAs (tabX_ok.step (show TabX NoB w from ⟨HT.out, noB _, noB _⟩) HM.out.keepsTo hAF)).mono ?_; rintro r w7 ⟨v1, rfl, hU⟩; have hn := hblk kw _ _ _ (by with_reducible repeat first | exact ph | apply pt)
      have hE7 := hE9.then hU.keepsTo (fun i _ h e => by
       rcases e with rfl | e
       · exact hn h
       · have := (hAF i h).resolve_left (noB _)
         omega)
      have hm7 := Mem.unlist (hZ _ _ hU); simp only [List.cons_append, List.nil_append] at hm7; obtain ⟨a1, c1, p1, q1, rfl⟩ := (hm7.pick (r := docsR [(v1, s.act z), (.agg (docC a c pd q s).toArray, s)]) pk).fact fun A h => doc_form (docs_at h (List.mem_cons_self ..))
      replace HM := Hd hm7; clear hm7 hU hZ hAs hAF hblk hn; clear As; refine hK _ _ ⟨ClsK.of (by assumption), ?_⟩; clear hK K; try simp only [nP]
      refine pM _ rfl rfl ?_; simp only [nP, nE]; iterate 2 (refine pR rfl (fun W => by go_simp <;> with_reducible rfl) ?_; simp only [nP])
      refine plan_nil ?_; simp only [tailL, List.filterMap_cons, List.filterMap_nil, nL]; change wpList _ _ _ (_ :: _ :: []) _ _; skip
      clear fM; have fM := HM.out.fa; go_wp2_with (first | ((with_reducible refine at_load 73 _ rfl ?_); refine ldW 73 _ rfl rfl rfl HM.out Tryz.underlying73 rfl infoDS ?_) | (((with_reducible refine at_store 73 _ _ rfl ?_); refine stW 73 _ _ rfl rfl rfl rfl HM.out infoDS ?_; intro w9 M); replace HM := Hd M; clear M fM; have fM := HM.out.fa)); all_goals clear fM
      refine nxt HM fun w21 M => ?_
      replace HM := M; clear M; obtain ⟨_, hBk⟩ := HM.out.get (r := cellsR kw 73 (docC a1 c1 p1 q1 (s.act z))) pk; have HB2 := Hd hBk.2; clear hBk; have fM := HM.out.fa; go_wp2_with fail; have hE0 : Keeps (fun k => ¬ k = kw) w21 w21.drew := (Keeps.refl _ _).drew; refine rgK (fun k => ¬ k = kw) [(0, 0), (0, 1), (0, 2), (0, 3), (1, 5), (2, 4)] [5] [4, 6, 7, 8] [6, 7, 8] ?_; simp only [planL, nL]; iterate 4 (first | (refine pM _ rfl rfl ?_; simp only [nP, nE]) | (refine pR (by rfl) (fun W => by go_simp <;> with_reducible rfl) ?_; simp only [nP]))
      refine pK (v := .agg (docC a1 c1 p1 q1 (s.act z)).toArray) rfl (fun y => elB 73 _ rfl rfl (HB2.out.keeps y.h (fun h => h rfl)) Tryz.underlying73 rfl infoDS) ?_; simp only [nP]; refine plan_does rfl (fun K hK => ?_); go_wp2_with fail; replace HM := Hd HM.out.drew; obtain ⟨Ahs, hs⟩ := HM.out.get (r := sesR sb (s.act z)) pk; refine (sst_any _ sb (s.act z) _ (HOK.out.act z) hs).mono ?_; rintro r wy ⟨rfl, hE⟩; have hE2 := hE0.ext hE; replace HM := Hd (HM.out.ext hE); clear hE hs; refine hK _ _ ⟨ClsK.of (by assumption), ?_⟩; clear hK K; try simp only [nP]
      refine plan_nil ?_; simp only [tailL, List.filterMap_cons, List.filterMap_nil, nL]; change wpList _ _ _ (_ :: _ :: _ :: []) _ _; go_wp2_with fail; skip
      obtain ⟨Ahd, hd⟩ := HM.out.get (r := docsR [(.agg (docC a1 c1 p1 q1 (s.act z)).toArray, s.act z), (.agg (docC a c pd q s).toArray, s)]) pk; refine (dst_any _ _ (s.act z) _ (HOK.out.act z) (docs_at hd (List.mem_cons_self ..))).mono ?_; rintro r wx ⟨rfl, hE⟩; have hE3 := hE2.ext hE; replace HM := Hd (HM.out.ext hE); clear hE hd; clear fM; have fM := HM.out.fa; go_wp2_with fail; all_goals clear fM
      go_roundw
      case rel =>
       refine ⟨k + 1, a1, c1, p1, q1, by omega, by go_num, Hd ?_⟩; rw [HSN.out]; exact Mem.sub (docs_sub (m := [(.agg (docC a1 c1 p1 q1 (s.act z)).toArray, s.act z)]) (HM.out.pick (r := docsR [(.agg (docC a1 c1 p1 q1 (s.act z)).toArray, s.act z), (.agg (docC a c pd q s).toArray, s)]) pk) (by simp)) sbI
      case measure => simp [intOf]; omega
  · obtain rfl : k = ls.length := by omega
    rw [List.take_length] at HM; obtain ⟨s, hs⟩ : ∃ s, s0.acts ls = s := ⟨_, rfl⟩; rw [hs] at HM; clear hs hk; have fM := HM.out.fa; go_wp2_with fail; all_goals clear fM
    refine nxt HM fun w23 M => ?_
    replace HM := M; clear M; obtain ⟨AhN, hN⟩ := HM.out.get (r := noneR p) pk; obtain ⟨Ahs, hs⟩ := HM.out.get (r := sesR sb s) pk; refine (nsame_right w23 p sb s (noneR.no hN) hs).mono ?_; rintro r wz ⟨rfl, hE⟩; replace HM := Hd (HM.out.ext hE); clear hE hN hs; have fM := HM.out.fa; go_wp2_with fail; all_goals clear fM
    refine nxt HM fun w24 M => ?_
    replace HM := M; clear M; obtain ⟨AhN, hN⟩ := HM.out.get (r := noneR p) pk; obtain ⟨Ahs, hs⟩ := HM.out.get (r := sesR sb s) pk; refine (nsame_left w24 p sb s (noneR.no hN) hs).mono ?_; rintro r wz ⟨rfl, hE⟩; replace HM := Hd (HM.out.ext hE); clear hE hN hs; have fM := HM.out.fa; go_wp2_with fail; all_goals clear fM
    refine nxt HM fun w8 M => ?_
    replace HM := M; clear M; refine (works_any w8 (HT.out.ext HM.out.extTo)).mono ?_; rintro r w9 ⟨rfl, hE⟩; replace HM := Hd (HM.out.ext hE); clear hE; have fM := HM.out.fa; go_wp2_with fail; all_goals clear fM
    go_ret; exact ⟨rfl, HM.out.extTo⟩
theorem plays_walk {A : Nat → Prop} (w : World) (v : Value) (ls : List Sc) (member number fr most wait now : Int) (h : Scs w A v ls) (hl : ls.length ≤ 9223372036854775807) (hA : ∀ k, A k → k < w.heap.size) (hT : Tabs w) :
 Calls Tryz.prog 7 #[.int .i64 member, .int .i64 number, .int .i64 fr, .int .i64 most, .int .i64 wait, .int .i64 now, v] w fun r w' => r = .returned (.bool true) ∧ Ext w w' := by
 cases hf : fewS ls 60
 · exact plays_few w v ls member number fr most wait now h hl hA hT hf
 cases hn : newOk member number fr most wait now
 · exact plays_no w v ls member number fr most wait now h hl hA hT hf hn
 exact plays_yes w v ls member number fr most wait now h hl hA hT hf hn
end
end Go.Proofs.YtoadjbgpfihoiaaGreatDoor
