/- Texts DocRd, DocParseW, one behind the other. Conditions: as each says. -/
import Derived.Test.YtoadjbgpfihoiaaGreatDoorFuT
import Derived.Test.YtoadjbgpfihoiaaGreatDoorFuZA
set_option linter.unusedVariables false
set_option linter.unusedSimpArgs false
set_option maxHeartbeats 8000000
set_option maxRecDepth 100000
namespace Go.Proofs.YtoadjbgpfihoiaaGreatDoor
open Go.RowKit
theorem docNum_any {A : Nat → Prop} (w : World) (r : Rdr) (x : Value) (g : Int) (hl : r.b.length ≤ 70368744177664) (h : RdV A w r x) (hA : ∀ k, A k → k < w.heap.size) :
 Calls Tryz.prog 172 #[x, .int .i64 g] w fun e w' => (∃ y, e = .returned (.tuple #[y, .int .i64 ((r.num g).2.1 : Int)]) ∧ RdV A w' (r.num g).1 y) ∧ Ext w w' := by
 have HM := Hd (Mem.start0 w); have HL := Hd hl; have HA := Hd hA; obtain ⟨a, c, rfl, hby⟩ := h; have HB := Hd hby
 clear hl hA hby
 go_enter Tryz.func172, Tryz.ntmps172
 have fM := HM.out.fa; go_wp2_with fail; all_goals clear fM
 refine nxt HM fun w1 M => ?_
 replace HM := M; clear M; have he1 := HM.out.extTo; refine (rvnum_any w1 r _ g HL.out ⟨a, c, rfl, HB.out.ext he1⟩ (fun k hk => Nat.lt_of_lt_of_le (HA.out k hk) he1.size)).mono ?_; rintro e w2 ⟨⟨y, rfl, hy⟩, hE⟩; obtain ⟨a2, c2, rfl, hb2⟩ := hy; have HB2 := Hd hb2; obtain ⟨⟨r2, n2, no2⟩, hq⟩ : ∃ q, r.num g = q := ⟨_, rfl⟩; have HQ := Hd hq; rw [hq] at HB2 ⊢; dsimp only at HB2 ⊢; clear hq hb2 he1; replace HM := Hd (HM.out.ext hE); have HE2 := Hd HM.out.extTo; clear hE; have fM := HM.out.fa; go_wp2_with fail; all_goals clear fM
 refine nxt HM fun w3 M => ?_
 replace HM := M; clear M; obtain ⟨Ahb, hb⟩ := HM.out.get (r := cellsR (w.heap.size + 1) 248 [.slice a2 r2.b.length c2, .int .i64 r2.e]) pk; refine bodyPost_ret (results_ct Tryz.results172 _ rfl (run_loadVar_row w3 _ _ 248 _ (0, 0) _ hb.2 Tryz.underlying248 rfl (by kernel_rfl))) rfl ?_; rw [HQ.out]; exact ⟨⟨_, rfl, a2, c2, rfl, HB2.out.swap HA.out HE2.out HM.out.extTo⟩, HM.out.extTo⟩
theorem docTxt_any {A : Nat → Prop} (w : World) (r : Rdr) (x : Value) (hl : r.b.length ≤ 70368744177664) (h : RdV A w r x) (hA : ∀ k, A k → k < w.heap.size) :
 Calls Tryz.prog 174 #[x] w fun e w' => (∃ y, e = .returned (.tuple #[y, .string (bs (r.txt 200).2.1)]) ∧ RdV A w' (r.txt 200).1 y) ∧ Ext w w' := by
 have HM := Hd (Mem.start0 w); have HL := Hd hl; have HA := Hd hA; obtain ⟨a, c, rfl, hby⟩ := h; have HB := Hd hby
 clear hl hA hby
 go_enter Tryz.func174, Tryz.ntmps174
 have fM := HM.out.fa; go_wp2_with fail; all_goals clear fM
 refine nxt HM fun w1 M => ?_
 replace HM := M; clear M; have he1 := HM.out.extTo; refine (rvtxt_any w1 r _ 200 HL.out ⟨a, c, rfl, HB.out.ext he1⟩ (fun k hk => Nat.lt_of_lt_of_le (HA.out k hk) he1.size)).mono ?_; rintro e w2 ⟨⟨y, rfl, hy⟩, hE⟩; obtain ⟨a2, c2, rfl, hb2⟩ := hy; have HB2 := Hd hb2; obtain ⟨⟨r2, n2, no2⟩, hq⟩ : ∃ q, r.txt 200 = q := ⟨_, rfl⟩; have HQ := Hd hq; rw [hq] at HB2 ⊢; dsimp only at HB2 ⊢; clear hq hb2 he1; replace HM := Hd (HM.out.ext hE); have HE2 := Hd HM.out.extTo; clear hE; have fM := HM.out.fa; go_wp2_with fail; all_goals clear fM
 refine nxt HM fun w3 M => ?_
 replace HM := M; clear M; obtain ⟨Ahb, hb⟩ := HM.out.get (r := cellsR (w.heap.size + 1) 248 [.slice a2 r2.b.length c2, .int .i64 r2.e]) pk; refine bodyPost_ret (results_ct Tryz.results174 _ rfl (run_loadVar_row w3 _ _ 248 _ (0, 0) _ hb.2 Tryz.underlying248 rfl (by kernel_rfl))) rfl ?_; rw [HQ.out]; exact ⟨⟨_, rfl, a2, c2, rfl, HB2.out.swap HA.out HE2.out HM.out.extTo⟩, HM.out.extTo⟩
def qDocParseW0 : List (Nat × Nat) := [(0, 0), (0, 1), (3, 2), (0, 3), (0, 4), (0, 5), (0, 6), (3, 7), (0, 8), (0, 9), (0, 10), (0, 11), (3, 12), (2, 13), (0, 14), (0, 15), (0, 16), (1, 17), (0, 20), (1, 21), (2, 18), (1, 19), (0, 22), (0, 23)]
theorem docParse_any {A : Nat → Prop} (W w : World) (hT : Tabs W) (hE : Ext W w) (v : Value) (l : List UInt8) (h : Bytes w A v l) (hA : ∀ k, A k → k < w.heap.size) (hl : l.length ≤ 70368744177664) :
 Calls Tryz.prog 110 #[v] w fun e w' => e = .returned (.tuple #[(parseL l).1.v, .int .i64 (parseL l).2]) ∧ Ext w w' := by
 obtain ⟨a, c, rfl⟩ := h.len; have HM := Hd (Mem.start0 w); have HE := Hd hE; have HV := Hd h; have HA := Hd hA; have HLL := Hd hl; obtain ⟨P, hP⟩ : ∃ P, parseL l = P := ⟨_, rfl⟩; rw [hP]; have HPL := Hd hP; clear hE h hA hl hP; go_enter Tryz.func110, Tryz.ntmps110
 have fM := HM.out.fa; go_wp2_with fail; all_goals clear fM
 refine nxt HM fun w1 M => ?_
 replace HM := M; clear M; have he1 := HM.out.extTo; refine (docNum_any w1 ⟨l, 0⟩ _ 12 HLL.out ⟨a, c, rfl, HV.out.ext he1⟩ (fun k hk => Nat.lt_of_lt_of_le (HA.out k hk) he1.size)).mono ?_; rintro e w2 ⟨⟨y, rfl, hy⟩, hE2⟩; clear he1
 have HPQ := Hd (show P = (let x := takeAll ((partsOf ((⟨l, 0⟩ : Rdr).num 12).2.1).getD []) ((⟨l, 0⟩ : Rdr).num 12).1 (Sd.of ((⟨l, 0⟩ : Rdr).num 12).2.1)
  if ((⟨l, 0⟩ : Rdr).num 12).2.2 = 0 ∧ x.1.e = 0 ∧ x.1.b = [] ∧ sdB x.2 = true then (x.2, 0) else (Sd.of 0, 340)) from HPL.out.symm)
 have hno := (⟨l, 0⟩ : Rdr).num_e' 12 (by decide); have hnl := (⟨l, 0⟩ : Rdr).num_len 12; have hnt := (⟨l, 0⟩ : Rdr).num_lt 12 (by decide); obtain ⟨⟨r, n, no⟩, hq⟩ : ∃ q, (⟨l, 0⟩ : Rdr).num 12 = q := ⟨_, rfl⟩; rw [hq] at hy HPQ hno hnl hnt ⊢; dsimp only at hy HPQ hno hnl hnt ⊢; subst hno; clear hq; obtain ⟨k, hk⟩ : ∃ k : Int, (n : Int) = k := ⟨_, rfl⟩; have HK := Hd (show 0 ≤ k ∧ k ≤ 12 by omega); rw [hk] at HPQ ⊢; clear hk hnt; obtain ⟨Z, hZ⟩ : ∃ Z, dF0 k r (Sd.of k) = Z := ⟨_, rfl⟩; rw [← dF_eq k HK.out, hZ] at HPQ
 have hst : Z.1.e = 0 → r.e = 0 := fun h => by
  by_cases he : r.e = 0
  · exact he
  · rw [← hZ, dF_eq k HK.out] at h
    exact absurd h (takeAll_sticky _ _ he)
 replace HPQ := Hd (show P = if Z.1.e = 0 ∧ Z.1.b = [] ∧ sdB Z.2 = true then (Z.2, 0) else (Sd.of 0, 340) by
  rw [HPQ.out]; by_cases h : Z.1.e = 0 ∧ Z.1.b = [] ∧ sdB Z.2 = true
  · rw [if_pos h, if_pos ⟨hst h.1, h⟩]
  · rw [if_neg h, if_neg (fun g => h g.2)])
 clear hst; have HZ := Hd hZ; have HLR := Hd (show r.b.length ≤ 70368744177664 from Nat.le_trans hnl HLL.out); clear hZ hnl; obtain ⟨a2, c2, rfl, hb2⟩ := hy; have HB := Hd hb2; replace HM := Hd (HM.out.ext hE2); have HE2 := Hd HM.out.extTo; clear hb2 hE2; have fM := HM.out.fa; go_upto_region 4 with fail
 clear fM; refine nxt HM fun w3 M => ?_
 replace HM := M; clear M; obtain ⟨k0, hk0⟩ : ∃ x, w.heap.size = x := ⟨_, rfl⟩; obtain ⟨kr, hkr⟩ : ∃ x, w.heap.size + 1 = x := ⟨_, rfl⟩; obtain ⟨ks, hks⟩ : ∃ x, w2.heap.size = x := ⟨_, rfl⟩; rw [hkr, hk0, hks] at HM ⊢; obtain ⟨s, hs⟩ : ∃ s, Sd.of k = s := ⟨_, rfl⟩; have hm0 : Mem NoB w w3 [cellsR ks 37 (Sd.of k).cells, cellsR kr 248 [.slice a2 r.b.length c2, .int .i64 r.e], cellsR k0 37 (Sd.of 0).cells] := HM.out; have HB := Hd (HB.out.swap HA.out HE2.out HM.out.extTo); rw [hs] at HZ hm0; have HS := Hd (show s.e = En0 ∧ s.kind = k ∧ Short s by rw [← hs]; exact ⟨rfl, rfl, Nat.zero_le _, Nat.zero_le _, Nat.zero_le _⟩); unfold Sd.cells at hm0; replace HM := Hd hm0; clear hm0 hs; clear hk0 hkr hks; go_cut [34] from 15 to 34 (fun s wx => s = .bool (decide (k = 1 ∨ k = 10 ∨ k = 11)) ∧ w3 = wx)
 case first =>
  by_cases h1 : k = 1
  · have d1 : (k == 1) = true := by simpa using h1
    have HD := Hd (show decide (k = 1 ∨ k = 10 ∨ k = 11) = true from decide_eq_true (.inl h1)); clear h1; go_wp2_with fail; go_meet
    case rel => exact ⟨by rw [HD.out], rfl⟩
  · have d1 : (k == 1) = false := by simpa using h1
    by_cases h2 : k = 10
    · have d2 : (k == 10) = true := by simpa using h2
      have HD := Hd (show decide (k = 1 ∨ k = 10 ∨ k = 11) = true from decide_eq_true (.inr (.inl h2))); clear h1 h2; go_wp2_with fail; go_meet
      case rel => exact ⟨by rw [HD.out], rfl⟩
    · have d2 : (k == 10) = false := by simpa using h2
      by_cases h3 : k = 11
      · have d3 : (k == 11) = true := by simpa using h3
        have HD := Hd (show decide (k = 1 ∨ k = 10 ∨ k = 11) = true from decide_eq_true (.inr (.inr h3))); clear h1 h2 h3; go_wp2_with fail; go_meet
        case rel => exact ⟨by rw [HD.out], rfl⟩
      · have d3 : (k == 11) = false := by simpa using h3
        have HD := Hd (show decide (k = 1 ∨ k = 10 ∨ k = 11) = false from decide_eq_false (fun h => h.elim h1 fun h => h.elim h2 h3)); clear h1 h2 h3; go_wp2_with fail; go_meet
        case rel => exact ⟨by rw [HD.out], rfl⟩
 obtain ⟨rfl, rfl⟩ := hcut; go_upto_if 34 with fail
 go_cut [] from 34 to 42 (fun wx => ∃ r s a2 c2, Hid (dF1 k r s = Z) ∧ Hid (s.e = En0 ∧ s.kind = k ∧ Short s) ∧ Hid (r.b.length ≤ 70368744177664) ∧ Hid (Bytes wx A (.slice a2 r.b.length c2) r.b) ∧ Hid (Mem NoB w wx [cellsR ks 37 s.cells, cellsR kr 248 [.slice a2 r.b.length c2, .int .i64 r.e], cellsR k0 37 (Sd.of 0).cells]))
 case first =>
  by_cases hd : k = 1 ∨ k = 10 ∨ k = 11
  · have HD := Hd hd
    rw [decide_eq_true hd]; clear hd; have fM := HM.out.fa; go_wp2_with fail; all_goals clear fM
    refine (docNum_any _ r _ 15 HLR.out ⟨_, _, rfl, HB.out⟩ (fun b hb => Nat.lt_of_lt_of_le (HA.out b hb) HM.out.extTo.size)).mono ?_; rintro e w4 ⟨⟨y, rfl, hy⟩, hE2⟩; obtain ⟨⟨r2, m, no⟩, hq⟩ : ∃ q, r.num 15 = q := ⟨_, rfl⟩; have HTm := Hd hq; have hln := r.num_len 15; rw [hq] at hy hln ⊢; dsimp only at hy hln ⊢; have HLm := Hd (Nat.le_trans hln HLR.out); obtain ⟨a3, c3, rfl, hb3⟩ := hy; have HBm := Hd hb3; clear hq hb3 hln; replace HM := Hd (HM.out.ext hE2); clear hE2; have HEm := Hd HM.out.extTo; have fM := HM.out.fa; go_wp2_with fail; all_goals clear fM
    refine nxt HM fun w5 M => ?_
    replace HM := M; clear M; go_meet
    case rel =>
     have hpt : Part.member.take r s = (r2, { s with member := m }) := by
      unfold Part.take; dsimp only; rw [HTm.out]
     exact ⟨r2, { s with member := m }, _, _, Hd (by have := HZ.out; unfold dF0 at this; rw [if_pos HD.out, hpt] at this; exact this), Hd ⟨HS.out.1, HS.out.2.1, by have := Part.member.take_short r s HS.out.2.2; rw [hpt] at this; exact this⟩, HLm, Hd (HBm.out.swap HA.out HEm.out HM.out.extTo), Hd (Mem.sub HM.out sbI)⟩
  · have HD := Hd hd
    rw [decide_eq_false hd]; clear hd; have fM := HM.out.fa; go_wp2_with fail; all_goals clear fM
    go_meet
    case rel => exact ⟨r, s, _, _, Hd (by have := HZ.out; unfold dF0 at this; rw [if_neg HD.out] at this; exact this), HS, HLR, HB, Hd (Mem.sub HM.out sbI)⟩
 clear HZ HS HLR HB HM; obtain ⟨r, s, a2, c2, HZ, HS, HLR, HB, HM⟩ := hcut; unfold Sd.cells at HM; obtain ⟨wk, hwk⟩ : ∃ x, x = wc := ⟨_, rfl⟩; subst hwk; have fM := HM.out.fa; go_upto_region 7 with fail
 clear fM; go_cut [48] from 43 to 48 (fun s wx => s = .bool (decide (k = 4 ∨ k = 12)) ∧ wk = wx)
 case first =>
  by_cases h1 : k = 4
  · have d1 : (k == 4) = true := by simpa using h1
    have HD := Hd (show decide (k = 4 ∨ k = 12) = true from decide_eq_true (.inl h1)); clear h1; go_wp2_with fail; go_meet
    case rel => exact ⟨by rw [HD.out], rfl⟩
  · have d1 : (k == 4) = false := by simpa using h1
    by_cases h2 : k = 12
    · have d2 : (k == 12) = true := by simpa using h2
      have HD := Hd (show decide (k = 4 ∨ k = 12) = true from decide_eq_true (.inr h2)); clear h1 h2; go_wp2_with fail; go_meet
      case rel => exact ⟨by rw [HD.out], rfl⟩
    · have d2 : (k == 12) = false := by simpa using h2
      have HD := Hd (show decide (k = 4 ∨ k = 12) = false from decide_eq_false (fun h => h.elim h1 h2)); clear h1 h2; go_wp2_with fail; go_meet
      case rel => exact ⟨by rw [HD.out], rfl⟩
 obtain ⟨rfl, rfl⟩ := hcut; go_upto_if 48 with fail
 go_cut [] from 48 to 54 (fun wx => ∃ r s a2 c2, Hid (dF2 k r s = Z) ∧ Hid (s.e = En0 ∧ s.kind = k ∧ Short s) ∧ Hid (r.b.length ≤ 70368744177664) ∧ Hid (Bytes wx A (.slice a2 r.b.length c2) r.b) ∧ Hid (Mem NoB w wx [cellsR ks 37 s.cells, cellsR kr 248 [.slice a2 r.b.length c2, .int .i64 r.e], cellsR k0 37 (Sd.of 0).cells]))
 case first =>
  by_cases hd : k = 4 ∨ k = 12
  · have HD := Hd hd
    rw [decide_eq_true hd]; clear hd; have fM := HM.out.fa; go_wp2_with fail; all_goals clear fM
    refine (docNum_any _ r _ 2147483647 HLR.out ⟨_, _, rfl, HB.out⟩ (fun b hb => Nat.lt_of_lt_of_le (HA.out b hb) HM.out.extTo.size)).mono ?_; rintro e w4 ⟨⟨y, rfl, hy⟩, hE2⟩; obtain ⟨⟨r2, m, no⟩, hq⟩ : ∃ q, r.num 2147483647 = q := ⟨_, rfl⟩; have HTm := Hd hq; have hln := r.num_len 2147483647; rw [hq] at hy hln ⊢; dsimp only at hy hln ⊢; have HLm := Hd (Nat.le_trans hln HLR.out); obtain ⟨a3, c3, rfl, hb3⟩ := hy; have HBm := Hd hb3; clear hq hb3 hln; replace HM := Hd (HM.out.ext hE2); clear hE2; have HEm := Hd HM.out.extTo; have fM := HM.out.fa; go_wp2_with fail; all_goals clear fM
    refine nxt HM fun w5 M => ?_
    replace HM := M; clear M; go_meet
    case rel =>
     have hpt : (Part.number 0).take r s = (r2, { s with number := m }) := by
      unfold Part.take; dsimp only; rw [HTm.out]
     exact ⟨r2, { s with number := m }, _, _, Hd (by have := HZ.out; unfold dF1 at this; rw [if_pos HD.out, hpt] at this; exact this), Hd ⟨HS.out.1, HS.out.2.1, by have := (Part.number 0).take_short r s HS.out.2.2; rw [hpt] at this; exact this⟩, HLm, Hd (HBm.out.swap HA.out HEm.out HM.out.extTo), Hd (Mem.sub HM.out sbI)⟩
  · have HD := Hd hd
    rw [decide_eq_false hd]; clear hd; have fM := HM.out.fa; go_wp2_with fail; all_goals clear fM
    go_meet
    case rel => exact ⟨r, s, _, _, Hd (by have := HZ.out; unfold dF1 at this; rw [if_neg HD.out] at this; exact this), HS, HLR, HB, Hd (Mem.sub HM.out sbI)⟩
 clear HZ HS HLR HB HM; obtain ⟨r, s, a2, c2, HZ, HS, HLR, HB, HM⟩ := hcut; unfold Sd.cells at HM; obtain ⟨wk, hwk⟩ : ∃ x, x = wc := ⟨_, rfl⟩; subst hwk; have fM := HM.out.fa; go_upto_region 9 with fail
 clear fM; go_cut [64] from 55 to 64 (fun s wx => s = .bool (decide (k = 5 ∨ k = 8 ∨ k = 9)) ∧ wk = wx)
 case first =>
  by_cases h1 : k = 5
  · have d1 : (k == 5) = true := by simpa using h1
    have HD := Hd (show decide (k = 5 ∨ k = 8 ∨ k = 9) = true from decide_eq_true (.inl h1)); clear h1; go_wp2_with fail; go_meet
    case rel => exact ⟨by rw [HD.out], rfl⟩
  · have d1 : (k == 5) = false := by simpa using h1
    by_cases h2 : k = 8
    · have d2 : (k == 8) = true := by simpa using h2
      have HD := Hd (show decide (k = 5 ∨ k = 8 ∨ k = 9) = true from decide_eq_true (.inr (.inl h2))); clear h1 h2; go_wp2_with fail; go_meet
      case rel => exact ⟨by rw [HD.out], rfl⟩
    · have d2 : (k == 8) = false := by simpa using h2
      by_cases h3 : k = 9
      · have d3 : (k == 9) = true := by simpa using h3
        have HD := Hd (show decide (k = 5 ∨ k = 8 ∨ k = 9) = true from decide_eq_true (.inr (.inr h3))); clear h1 h2 h3; go_wp2_with fail; go_meet
        case rel => exact ⟨by rw [HD.out], rfl⟩
      · have d3 : (k == 9) = false := by simpa using h3
        have HD := Hd (show decide (k = 5 ∨ k = 8 ∨ k = 9) = false from decide_eq_false (fun h => h.elim h1 fun h => h.elim h2 h3)); clear h1 h2 h3; go_wp2_with fail; go_meet
        case rel => exact ⟨by rw [HD.out], rfl⟩
 obtain ⟨rfl, rfl⟩ := hcut; go_upto_if 64 with fail
 go_cut [] from 64 to 70 (fun wx => ∃ r s a2 c2, Hid (dF3 k r s = Z) ∧ Hid (s.e = En0 ∧ s.kind = k ∧ Short s) ∧ Hid (r.b.length ≤ 70368744177664) ∧ Hid (Bytes wx A (.slice a2 r.b.length c2) r.b) ∧ Hid (Mem NoB w wx [cellsR ks 37 s.cells, cellsR kr 248 [.slice a2 r.b.length c2, .int .i64 r.e], cellsR k0 37 (Sd.of 0).cells]))
 case first =>
  by_cases hd : k = 5 ∨ k = 8 ∨ k = 9
  · have HD := Hd hd
    rw [decide_eq_true hd]; clear hd; have fM := HM.out.fa; go_wp2_with fail; all_goals clear fM
    refine (docNum_any _ r _ 2147483647 HLR.out ⟨_, _, rfl, HB.out⟩ (fun b hb => Nat.lt_of_lt_of_le (HA.out b hb) HM.out.extTo.size)).mono ?_; rintro e w4 ⟨⟨y, rfl, hy⟩, hE2⟩; obtain ⟨⟨r2, m, no⟩, hq⟩ : ∃ q, r.num 2147483647 = q := ⟨_, rfl⟩; have HTm := Hd hq; have hln := r.num_len 2147483647; rw [hq] at hy hln ⊢; dsimp only at hy hln ⊢; have HLm := Hd (Nat.le_trans hln HLR.out); obtain ⟨a3, c3, rfl, hb3⟩ := hy; have HBm := Hd hb3; clear hq hb3 hln; replace HM := Hd (HM.out.ext hE2); clear hE2; have HEm := Hd HM.out.extTo; have fM := HM.out.fa; go_wp2_with fail; all_goals clear fM
    refine nxt HM fun w5 M => ?_
    replace HM := M; clear M; go_meet
    case rel =>
     have hpt : Part.index.take r s = (r2, { s with index := m }) := by
      unfold Part.take; dsimp only; rw [HTm.out]
     exact ⟨r2, { s with index := m }, _, _, Hd (by have := HZ.out; unfold dF2 at this; rw [if_pos HD.out, hpt] at this; exact this), Hd ⟨HS.out.1, HS.out.2.1, by have := Part.index.take_short r s HS.out.2.2; rw [hpt] at this; exact this⟩, HLm, Hd (HBm.out.swap HA.out HEm.out HM.out.extTo), Hd (Mem.sub HM.out sbI)⟩
  · have HD := Hd hd
    rw [decide_eq_false hd]; clear hd; have fM := HM.out.fa; go_wp2_with fail; all_goals clear fM
    go_meet
    case rel => exact ⟨r, s, _, _, Hd (by have := HZ.out; unfold dF2 at this; rw [if_neg HD.out] at this; exact this), HS, HLR, HB, Hd (Mem.sub HM.out sbI)⟩
 clear HZ HS HLR HB HM; obtain ⟨r, s, a2, c2, HZ, HS, HLR, HB, HM⟩ := hcut; unfold Sd.cells at HM; obtain ⟨wk, hwk⟩ : ∃ x, x = wc := ⟨_, rfl⟩; subst hwk; have fM := HM.out.fa; go_upto_region 11 with fail
 clear fM; go_cut [80] from 71 to 80 (fun s wx => s = .bool (decide (k = 7 ∨ k = 10 ∨ k = 11)) ∧ wk = wx)
 case first =>
  by_cases h1 : k = 7
  · have d1 : (k == 7) = true := by simpa using h1
    have HD := Hd (show decide (k = 7 ∨ k = 10 ∨ k = 11) = true from decide_eq_true (.inl h1)); clear h1; go_wp2_with fail; go_meet
    case rel => exact ⟨by rw [HD.out], rfl⟩
  · have d1 : (k == 7) = false := by simpa using h1
    by_cases h2 : k = 10
    · have d2 : (k == 10) = true := by simpa using h2
      have HD := Hd (show decide (k = 7 ∨ k = 10 ∨ k = 11) = true from decide_eq_true (.inr (.inl h2))); clear h1 h2; go_wp2_with fail; go_meet
      case rel => exact ⟨by rw [HD.out], rfl⟩
    · have d2 : (k == 10) = false := by simpa using h2
      by_cases h3 : k = 11
      · have d3 : (k == 11) = true := by simpa using h3
        have HD := Hd (show decide (k = 7 ∨ k = 10 ∨ k = 11) = true from decide_eq_true (.inr (.inr h3))); clear h1 h2 h3; go_wp2_with fail; go_meet
        case rel => exact ⟨by rw [HD.out], rfl⟩
      · have d3 : (k == 11) = false := by simpa using h3
        have HD := Hd (show decide (k = 7 ∨ k = 10 ∨ k = 11) = false from decide_eq_false (fun h => h.elim h1 fun h => h.elim h2 h3)); clear h1 h2 h3; go_wp2_with fail; go_meet
        case rel => exact ⟨by rw [HD.out], rfl⟩
 obtain ⟨rfl, rfl⟩ := hcut; go_upto_if 80 with fail
 go_cut [] from 80 to 91 (fun wx => ∃ r s a2 c2, Hid (dF4 k r s = Z) ∧ Hid (s.e = En0 ∧ s.kind = k ∧ Short s) ∧ Hid (r.b.length ≤ 70368744177664) ∧ Hid (Bytes wx A (.slice a2 r.b.length c2) r.b) ∧ Hid (Mem NoB w wx [cellsR ks 37 s.cells, cellsR kr 248 [.slice a2 r.b.length c2, .int .i64 r.e], cellsR k0 37 (Sd.of 0).cells]))
 case first =>
  by_cases hd : k = 7 ∨ k = 10 ∨ k = 11
  · have HD := Hd hd
    rw [decide_eq_true hd]; clear hd; have fM := HM.out.fa; go_wp2_with fail; all_goals clear fM
    refine (rvtru_any _ r _ HLR.out ⟨_, _, rfl, HB.out⟩ (fun b hb => Nat.lt_of_lt_of_le (HA.out b hb) HM.out.extTo.size)).mono ?_; rintro e w4 ⟨⟨y, rfl, hy⟩, hE2⟩; obtain ⟨⟨r2, m, no⟩, hq⟩ : ∃ q, r.tru = q := ⟨_, rfl⟩; have HTm := Hd hq; have hln := r.tru_len; rw [hq] at hy hln ⊢; dsimp only at hy hln ⊢; have HLm := Hd (Nat.le_trans hln HLR.out); obtain ⟨a3, c3, rfl, hb3⟩ := hy; have HBm := Hd hb3; clear hq hb3 hln; replace HM := Hd (HM.out.ext hE2); clear hE2; have HEm := Hd HM.out.extTo; have fM := HM.out.fa; go_wp2_with fail; all_goals clear fM
    refine nxt HM fun w5 M => ?_
    replace HM := M; clear M; go_meet
    case rel =>
     have hpt : Part.is.take r s = (r2, { s with is := m }) := by
      unfold Part.take; dsimp only; rw [HTm.out]
     exact ⟨r2, { s with is := m }, _, _, Hd (by have := HZ.out; unfold dF3 at this; rw [if_pos HD.out, hpt] at this; exact this), Hd ⟨HS.out.1, HS.out.2.1, by have := Part.is.take_short r s HS.out.2.2; rw [hpt] at this; exact this⟩, HLm, Hd (HBm.out.swap HA.out HEm.out HM.out.extTo), Hd (Mem.sub HM.out sbI)⟩
  · have HD := Hd hd
    rw [decide_eq_false hd]; clear hd; have fM := HM.out.fa; go_wp2_with fail; all_goals clear fM
    go_meet
    case rel => exact ⟨r, s, _, _, Hd (by have := HZ.out; unfold dF3 at this; rw [if_neg HD.out] at this; exact this), HS, HLR, HB, Hd (Mem.sub HM.out sbI)⟩
 clear HZ HS HLR HB HM; obtain ⟨r, s, a2, c2, HZ, HS, HLR, HB, HM⟩ := hcut; unfold Sd.cells at HM; obtain ⟨wk, hwk⟩ : ∃ x, x = wc := ⟨_, rfl⟩; subst hwk; have fM := HM.out.fa; go_upto_region 14 with fail
 clear fM; go_cut [93] from 92 to 93 (fun s wx => s = .bool (decide (k = 4)) ∧ wk = wx)
 case first =>
  by_cases h1 : k = 4
  · have d1 : (k == 4) = true := by simpa using h1
    have HD := Hd (show decide (k = 4) = true from decide_eq_true h1); clear h1; go_wp2_with fail; go_meet
    case rel => exact ⟨by rw [HD.out], rfl⟩
  · have d1 : (k == 4) = false := by simpa using h1
    have HD := Hd (show decide (k = 4) = false from decide_eq_false h1); clear h1; go_wp2_with fail; go_meet
    case rel => exact ⟨by rw [HD.out], rfl⟩
 obtain ⟨rfl, rfl⟩ := hcut; go_upto_if 93 with fail
 go_cut [] from 93 to 99 (fun wx => ∃ r s a2 c2, Hid (dF5 k r s = Z) ∧ Hid (s.e = En0 ∧ s.kind = k ∧ Short s) ∧ Hid (r.b.length ≤ 70368744177664) ∧ Hid (Bytes wx A (.slice a2 r.b.length c2) r.b) ∧ Hid (Mem NoB w wx [cellsR ks 37 s.cells, cellsR kr 248 [.slice a2 r.b.length c2, .int .i64 r.e], cellsR k0 37 (Sd.of 0).cells]))
 case first =>
  by_cases hd : k = 4
  · have HD := Hd hd
    rw [decide_eq_true hd]; clear hd; have fM := HM.out.fa; go_wp2_with fail; all_goals clear fM
    refine (docTxt_any _ r _ HLR.out ⟨_, _, rfl, HB.out⟩ (fun b hb => Nat.lt_of_lt_of_le (HA.out b hb) HM.out.extTo.size)).mono ?_; rintro e w4 ⟨⟨y, rfl, hy⟩, hE2⟩; obtain ⟨⟨r2, m, no⟩, hq⟩ : ∃ q, r.txt 200 = q := ⟨_, rfl⟩; have HTm := Hd hq; have hln := r.txt_len 200; rw [hq] at hy hln ⊢; dsimp only at hy hln ⊢; have HLm := Hd (Nat.le_trans hln HLR.out); obtain ⟨a3, c3, rfl, hb3⟩ := hy; have HBm := Hd hb3; clear hq hb3 hln; replace HM := Hd (HM.out.ext hE2); clear hE2; have HEm := Hd HM.out.extTo; have fM := HM.out.fa; go_wp2_with fail; all_goals clear fM
    refine nxt HM fun w5 M => ?_
    replace HM := M; clear M; go_meet
    case rel =>
     have hpt : Part.said.take r s = (r2, { s with text := m }) := by
      unfold Part.take; dsimp only; rw [HTm.out]
     exact ⟨r2, { s with text := m }, _, _, Hd (by have := HZ.out; unfold dF4 at this; rw [if_pos HD.out, hpt] at this; exact this), Hd ⟨HS.out.1, HS.out.2.1, by have := Part.said.take_short r s HS.out.2.2; rw [hpt] at this; exact this⟩, HLm, Hd (HBm.out.swap HA.out HEm.out HM.out.extTo), Hd (Mem.sub HM.out sbI)⟩
  · have HD := Hd hd
    rw [decide_eq_false hd]; clear hd; have fM := HM.out.fa; go_wp2_with fail; all_goals clear fM
    go_meet
    case rel => exact ⟨r, s, _, _, Hd (by have := HZ.out; unfold dF4 at this; rw [if_neg HD.out] at this; exact this), HS, HLR, HB, Hd (Mem.sub HM.out sbI)⟩
 clear HZ HS HLR HB HM; obtain ⟨r, s, a2, c2, HZ, HS, HLR, HB, HM⟩ := hcut; unfold Sd.cells at HM; obtain ⟨wk, hwk⟩ : ∃ x, x = wc := ⟨_, rfl⟩; subst hwk; have fM := HM.out.fa; go_upto_region 16 with fail
 clear fM; go_cut [109] from 100 to 109 (fun s wx => s = .bool (decide (k = 1 ∨ k = 8 ∨ k = 9)) ∧ wk = wx)
 case first =>
  by_cases h1 : k = 1
  · have d1 : (k == 1) = true := by simpa using h1
    have HD := Hd (show decide (k = 1 ∨ k = 8 ∨ k = 9) = true from decide_eq_true (.inl h1)); clear h1; go_wp2_with fail; go_meet
    case rel => exact ⟨by rw [HD.out], rfl⟩
  · have d1 : (k == 1) = false := by simpa using h1
    by_cases h2 : k = 8
    · have d2 : (k == 8) = true := by simpa using h2
      have HD := Hd (show decide (k = 1 ∨ k = 8 ∨ k = 9) = true from decide_eq_true (.inr (.inl h2))); clear h1 h2; go_wp2_with fail; go_meet
      case rel => exact ⟨by rw [HD.out], rfl⟩
    · have d2 : (k == 8) = false := by simpa using h2
      by_cases h3 : k = 9
      · have d3 : (k == 9) = true := by simpa using h3
        have HD := Hd (show decide (k = 1 ∨ k = 8 ∨ k = 9) = true from decide_eq_true (.inr (.inr h3))); clear h1 h2 h3; go_wp2_with fail; go_meet
        case rel => exact ⟨by rw [HD.out], rfl⟩
      · have d3 : (k == 9) = false := by simpa using h3
        have HD := Hd (show decide (k = 1 ∨ k = 8 ∨ k = 9) = false from decide_eq_false (fun h => h.elim h1 fun h => h.elim h2 h3)); clear h1 h2 h3; go_wp2_with fail; go_meet
        case rel => exact ⟨by rw [HD.out], rfl⟩
 obtain ⟨rfl, rfl⟩ := hcut; go_upto_if 109 with fail
 go_cut [] from 109 to 115 (fun wx => ∃ r s a2 c2, Hid (dF6 k r s = Z) ∧ Hid (s.e = En0 ∧ s.kind = k ∧ Short s) ∧ Hid (r.b.length ≤ 70368744177664) ∧ Hid (Bytes wx A (.slice a2 r.b.length c2) r.b) ∧ Hid (Mem NoB w wx [cellsR ks 37 s.cells, cellsR kr 248 [.slice a2 r.b.length c2, .int .i64 r.e], cellsR k0 37 (Sd.of 0).cells]))
 case first =>
  by_cases hd : k = 1 ∨ k = 8 ∨ k = 9
  · have HD := Hd hd
    rw [decide_eq_true hd]; clear hd; have fM := HM.out.fa; go_wp2_with fail; all_goals clear fM
    refine (docTxt_any _ r _ HLR.out ⟨_, _, rfl, HB.out⟩ (fun b hb => Nat.lt_of_lt_of_le (HA.out b hb) HM.out.extTo.size)).mono ?_; rintro e w4 ⟨⟨y, rfl, hy⟩, hE2⟩; obtain ⟨⟨r2, m, no⟩, hq⟩ : ∃ q, r.txt 200 = q := ⟨_, rfl⟩; have HTm := Hd hq; have hln := r.txt_len 200; rw [hq] at hy hln ⊢; dsimp only at hy hln ⊢; have HLm := Hd (Nat.le_trans hln HLR.out); obtain ⟨a3, c3, rfl, hb3⟩ := hy; have HBm := Hd hb3; clear hq hb3 hln; replace HM := Hd (HM.out.ext hE2); clear hE2; have HEm := Hd HM.out.extTo; have fM := HM.out.fa; go_wp2_with fail; all_goals clear fM
    refine nxt HM fun w5 M => ?_
    replace HM := M; clear M; go_meet
    case rel =>
     have hpt : Part.token.take r s = (r2, { s with token := m }) := by
      unfold Part.take; dsimp only; rw [HTm.out]
     exact ⟨r2, { s with token := m }, _, _, Hd (by have := HZ.out; unfold dF5 at this; rw [if_pos HD.out, hpt] at this; exact this), Hd ⟨HS.out.1, HS.out.2.1, by have := Part.token.take_short r s HS.out.2.2; rw [hpt] at this; exact this⟩, HLm, Hd (HBm.out.swap HA.out HEm.out HM.out.extTo), Hd (Mem.sub HM.out sbI)⟩
  · have HD := Hd hd
    rw [decide_eq_false hd]; clear hd; have fM := HM.out.fa; go_wp2_with fail; all_goals clear fM
    go_meet
    case rel => exact ⟨r, s, _, _, Hd (by have := HZ.out; unfold dF5 at this; rw [if_neg HD.out] at this; exact this), HS, HLR, HB, Hd (Mem.sub HM.out sbI)⟩
 clear HZ HS HLR HB HM; obtain ⟨r, s, a2, c2, HZ, HS, HLR, HB, HM⟩ := hcut; unfold Sd.cells at HM; obtain ⟨wk, hwk⟩ : ∃ x, x = wc := ⟨_, rfl⟩; subst hwk; have fM := HM.out.fa; go_upto_region 18 with fail
 clear fM; go_cut [117] from 116 to 117 (fun s wx => s = .bool (decide (k = 9)) ∧ wk = wx)
 case first =>
  by_cases h1 : k = 9
  · have d1 : (k == 9) = true := by simpa using h1
    have HD := Hd (show decide (k = 9) = true from decide_eq_true h1); clear h1; go_wp2_with fail; go_meet
    case rel => exact ⟨by rw [HD.out], rfl⟩
  · have d1 : (k == 9) = false := by simpa using h1
    have HD := Hd (show decide (k = 9) = false from decide_eq_false h1); clear h1; go_wp2_with fail; go_meet
    case rel => exact ⟨by rw [HD.out], rfl⟩
 obtain ⟨rfl, rfl⟩ := hcut; go_upto_if 117 with fail
 go_cut [] from 117 to 148 (fun wx => ∃ r s a2 c2, Hid (dF7 k r s = Z) ∧ Hid (s.kind = k ∧ Short s) ∧ Hid (r.b.length ≤ 70368744177664) ∧ Hid (Bytes wx A (.slice a2 r.b.length c2) r.b) ∧ Hid (Mem NoB w wx [cellsR ks 37 s.cells, cellsR kr 248 [.slice a2 r.b.length c2, .int .i64 r.e], cellsR k0 37 (Sd.of 0).cells]))
 case first =>
  by_cases hd : k = 9
  · have HD := Hd hd
    rw [decide_eq_true hd]; clear hd; have fM := HM.out.fa; go_wp2_with fail; all_goals clear fM
    refine (docNum_any _ r _ 4 HLR.out ⟨_, _, rfl, HB.out⟩ (fun b hb => Nat.lt_of_lt_of_le (HA.out b hb) HM.out.extTo.size)).mono ?_; rintro e w4 ⟨⟨y, rfl, hy⟩, hE2⟩; obtain ⟨⟨r2, m, no⟩, hq⟩ : ∃ q, r.num 4 = q := ⟨_, rfl⟩; have HTm := Hd hq; have hln := r.num_len 4; rw [hq] at hy hln ⊢; dsimp only at hy hln ⊢; have HLm := Hd (Nat.le_trans hln HLR.out); obtain ⟨a3, c3, rfl, hb3⟩ := hy; have HBm := Hd hb3; clear hq hb3 hln; replace HM := Hd (HM.out.ext hE2); clear hE2; have HEm := Hd HM.out.extTo; have fM := HM.out.fa; go_wp2_with fail; all_goals clear fM
    refine nxt HM fun w6 M => ?_
    replace HM := M; clear M; have HBxm := Hd (HBm.out.swap HA.out HEm.out HM.out.extTo); refine (docNum_any _ r2 _ 15 HLm.out ⟨_, _, rfl, HBxm.out⟩ (fun b hb => Nat.lt_of_lt_of_le (HA.out b hb) HM.out.extTo.size)).mono ?_; rintro e w4 ⟨⟨y, rfl, hy⟩, hE2⟩; obtain ⟨⟨r3, n3, no⟩, hq⟩ : ∃ q, r2.num 15 = q := ⟨_, rfl⟩; have HTn3 := Hd hq; have hln := r2.num_len 15; rw [hq] at hy hln ⊢; dsimp only at hy hln ⊢; have HLn3 := Hd (Nat.le_trans hln HLm.out); obtain ⟨a3, c3, rfl, hb3⟩ := hy; have HBn3 := Hd hb3; clear hq hb3 hln; replace HM := Hd (HM.out.ext hE2); clear hE2; have HEn3 := Hd HM.out.extTo; by_cases h4 : m = 4
    · have H4 := Hd h4
      have d4 : ((m : Int) == 4) = true := by simp [h4]
      clear h4; have fM := HM.out.fa; go_wp2_with fail; all_goals clear fM
      refine nxt HM fun w7 M => ?_
      replace HM := M; clear M; have HBxn3 := Hd (HBn3.out.swap HA.out HEn3.out HM.out.extTo); refine (docNum_any _ r3 _ 2147483647 HLn3.out ⟨_, _, rfl, HBxn3.out⟩ (fun b hb => Nat.lt_of_lt_of_le (HA.out b hb) HM.out.extTo.size)).mono ?_; rintro e w4 ⟨⟨y, rfl, hy⟩, hE2⟩; obtain ⟨⟨r4, n4, no⟩, hq⟩ : ∃ q, r3.num 2147483647 = q := ⟨_, rfl⟩; have HTn4 := Hd hq; have hln := r3.num_len 2147483647; rw [hq] at hy hln ⊢; dsimp only at hy hln ⊢; have HLn4 := Hd (Nat.le_trans hln HLn3.out); obtain ⟨a3, c3, rfl, hb3⟩ := hy; have HBn4 := Hd hb3; clear hq hb3 hln; replace HM := Hd (HM.out.ext hE2); clear hE2; have HEn4 := Hd HM.out.extTo; have fM := HM.out.fa; go_wp2_with fail; all_goals clear fM
      refine nxt HM fun w8 M => ?_
      replace HM := M; clear M; have HBxn4 := Hd (HBn4.out.swap HA.out HEn4.out HM.out.extTo); refine (docTxt_any _ r4 _ HLn4.out ⟨_, _, rfl, HBxn4.out⟩ (fun b hb => Nat.lt_of_lt_of_le (HA.out b hb) HM.out.extTo.size)).mono ?_; rintro e w4 ⟨⟨y, rfl, hy⟩, hE2⟩; obtain ⟨⟨r5, n5, no⟩, hq⟩ : ∃ q, r4.txt 200 = q := ⟨_, rfl⟩; have HTn5 := Hd hq; have hln := r4.txt_len 200; rw [hq] at hy hln ⊢; dsimp only at hy hln ⊢; have HLn5 := Hd (Nat.le_trans hln HLn4.out); obtain ⟨a3, c3, rfl, hb3⟩ := hy; have HBn5 := Hd hb3; clear hq hb3 hln; replace HM := Hd (HM.out.ext hE2); clear hE2; have HEn5 := Hd HM.out.extTo; have fM := HM.out.fa; go_wp2_with fail; all_goals clear fM
      refine nxt HM fun w5 M => ?_
      replace HM := M; clear M; try rw [show Value.string ⟨#[]⟩ = Value.string (bs []) from rfl] at HM
      go_meet
      case rel =>
       have hpt : Part.entry.take r s = (r5, { s with e := ⟨m, n3, n4, n5⟩ }) := by
        unfold Part.take; dsimp only; rw [HTm.out]; dsimp only; rw [HTn3.out]; dsimp only; rw [if_pos H4.out, HTn4.out]; dsimp only; rw [HTn5.out]
       exact ⟨r5, { s with e := ⟨m, n3, n4, n5⟩ }, _, _, Hd (by have := HZ.out; unfold dF6 at this; rw [if_pos HD.out, hpt] at this; exact this), Hd ⟨HS.out.2.1, by have := Part.entry.take_short r s HS.out.2.2; rw [hpt] at this; exact this⟩, HLn5, Hd (HBn5.out.swap HA.out HEn5.out HM.out.extTo), Hd (Mem.sub HM.out sbI)⟩
    · have H4 := Hd h4
      have d4 : ((m : Int) == 4) = false := by simp; omega
      clear h4; have fM := HM.out.fa; go_wp2_with fail; all_goals clear fM
      refine nxt HM fun w5 M => ?_
      replace HM := M; clear M; try rw [show Value.string ⟨#[]⟩ = Value.string (bs []) from rfl] at HM
      go_meet
      case rel =>
       have hpt : Part.entry.take r s = (r3, { s with e := ⟨m, n3, 0, []⟩ }) := by
        unfold Part.take; dsimp only; rw [HTm.out]; dsimp only; rw [HTn3.out]; dsimp only; rw [if_neg H4.out, HS.out.1]; rfl
       exact ⟨r3, { s with e := ⟨m, n3, 0, []⟩ }, _, _, Hd (by have := HZ.out; unfold dF6 at this; rw [if_pos HD.out, hpt] at this; exact this), Hd ⟨HS.out.2.1, by have := Part.entry.take_short r s HS.out.2.2; rw [hpt] at this; exact this⟩, HLn3, Hd (HBn3.out.swap HA.out HEn3.out HM.out.extTo), Hd (Mem.sub HM.out sbI)⟩
  · have HD := Hd hd
    rw [decide_eq_false hd]; clear hd; have fM := HM.out.fa; go_wp2_with fail; all_goals clear fM
    go_meet
    case rel => exact ⟨r, s, _, _, Hd (by have := HZ.out; unfold dF6 at this; rw [if_neg HD.out] at this; exact this), Hd HS.out.2, HLR, HB, Hd (Mem.sub HM.out sbI)⟩
 clear HZ HS HLR HB HM; obtain ⟨r, s, a2, c2, HZ, HS, HLR, HB, HM⟩ := hcut; unfold Sd.cells at HM; obtain ⟨wk, hwk⟩ : ∃ x, x = wc := ⟨_, rfl⟩; subst hwk; have hz : (r, s) = Z := HZ.out; subst hz; clear HZ; have fM := HM.out.fa; go_upto_region 26 with fail
 clear fM; obtain ⟨n, hn⟩ : ∃ n, r.b.length = n := ⟨_, rfl⟩; obtain ⟨e0, he0⟩ : ∃ x, r.e = x := ⟨_, rfl⟩; rw [hn, he0] at HM; have HN := Hd hn; clear hn HB HLR; by_cases he : e0 = 0
 case neg =>
  have HQ := Hd (show P = (Sd.of 0, 340) by rw [HPQ.out, if_neg (fun h => he (he0.symm.trans h.1))]); have d1 : (e0 != 0) = true := by simpa using he
  clear he he0; have fM := HM.out.fa; have hE0 : Keeps NoB wk wk.drew := (Keeps.refl _ _).drew; refine rgE qDocParseW0 [17, 19, 21] [13, 18] [] ?_ (hp := (plan3 [0, 1, 3, 7, 15, 31, 63, 127, 255, 511, 1023, 2047, 4095, 8191, 16383, 32767, 65535, 131071, 262143, 524287, 131071, 1179647, 4194303, 8388607] (by kernel_rfl) rfl (by kernel_rfl))); simp only [qDocParseW0, planL, nL]; iterate 5 (first | (refine pM _ rfl rfl ?_; simp only [nP, nE]) | (refine pR (by rfl) (fun W => by go_simp <;> with_reducible rfl) ?_; simp only [nP]) | (refine pX (by rfl) (by go_simp <;> with_reducible rfl) ?_; simp only [nP]))
  iterate 2 ((refine plan_skip rfl ?_; simp only [nP]))
  refine plan_skip rfl ?_; simp only [nP]; iterate 2 ((refine plan_skip rfl ?_; simp only [nP]))
  iterate 14 (first | (refine plan_skip rfl ?_; simp only [nP]) | (refine pM _ rfl rfl ?_; simp only [nP, nE]) | (refine pR (by rfl) (fun W => by go_simp <;> with_reducible rfl) ?_; simp only [nP]))
  refine plan_nil ?_; simp only [tailL, List.filterMap_nil]; clear fM; clear d1; refine nxt HM fun w6 M => ?_
  replace HM := M; clear M; have fM := HM.out.fa; go_wp2_with fail; all_goals clear fM
  refine nxt HM fun w9 M => ?_
  replace HM := M; clear M; obtain ⟨Ahb, hb⟩ := HM.out.get (r := cellsR k0 37 [.int .i64 0, .int .i64 0, .int .i64 0, .int .i64 0, .bool false, .string ⟨#[]⟩, .string ⟨#[]⟩, .int .i64 0, .int .i64 0, .int .i64 0, .string ⟨#[]⟩]) pk; refine bodyPost_ret (results_ct Tryz.results110 _ rfl (run_loadVar_row w9 _ _ 37 _ (0, 0) _ hb.2 Tryz.underlying37 rfl (by kernel_rfl))) rfl ?_; exact ⟨by rw [HQ.out]; rfl, HM.out.extTo⟩
 subst he; have HE0' := Hd he0; clear he0; by_cases hb : r.b = []
 case neg =>
  have HQ := Hd (show P = (Sd.of 0, 340) by rw [HPQ.out, if_neg (fun h => hb h.2.1)]); have d2 : decide ((0 : Int) < (n : Int)) = true := decide_eq_true (by have := List.length_pos_iff.2 hb; have := HN.out; omega); have d3 : decide (0 < n) = true := decide_eq_true (by have := List.length_pos_iff.2 hb; have := HN.out; omega); clear hb; have fM := HM.out.fa; have hE0 : Keeps NoB wk wk.drew := (Keeps.refl _ _).drew; refine rgE qDocParseW0 [17, 19, 21] [13, 18] [] ?_ (hp := (plan3 [0, 1, 3, 7, 15, 31, 63, 127, 255, 511, 1023, 2047, 4095, 8191, 16383, 32767, 65535, 131071, 262143, 524287, 131071, 1179647, 4194303, 8388607] (by kernel_rfl) rfl (by kernel_rfl))); simp only [qDocParseW0, planL, nL]; iterate 5 (first | (refine pM _ rfl rfl ?_; simp only [nP, nE]) | (refine pR (by rfl) (fun W => by go_simp <;> with_reducible rfl) ?_; simp only [nP]) | (refine pX (by rfl) (by go_simp <;> with_reducible rfl) ?_; simp only [nP]))
  iterate 2 ((refine pR rfl (fun W => by go_simp <;> with_reducible rfl) ?_; simp only [nP]))
  refine pX rfl (by go_simp <;> with_reducible rfl) ?_; simp only [nP]; iterate 2 ((refine pR rfl (fun W => by go_simp <;> with_reducible rfl) ?_; simp only [nP]))
  iterate 14 (first | (refine plan_skip rfl ?_; simp only [nP]) | (refine pM _ rfl rfl ?_; simp only [nP, nE]) | (refine pR (by rfl) (fun W => by go_simp <;> with_reducible rfl) ?_; simp only [nP]))
  refine plan_nil ?_; simp only [tailL, List.filterMap_nil]; clear fM; clear d2 d3; refine nxt HM fun w6 M => ?_
  replace HM := M; clear M; have fM := HM.out.fa; go_wp2_with fail; all_goals clear fM
  refine nxt HM fun w9 M => ?_
  replace HM := M; clear M; obtain ⟨Ahb, hb⟩ := HM.out.get (r := cellsR k0 37 [.int .i64 0, .int .i64 0, .int .i64 0, .int .i64 0, .bool false, .string ⟨#[]⟩, .string ⟨#[]⟩, .int .i64 0, .int .i64 0, .int .i64 0, .string ⟨#[]⟩]) pk; refine bodyPost_ret (results_ct Tryz.results110 _ rfl (run_loadVar_row w9 _ _ 37 _ (0, 0) _ hb.2 Tryz.underlying37 rfl (by kernel_rfl))) rfl ?_; exact ⟨by rw [HQ.out]; rfl, HM.out.extTo⟩
 have HB0 := Hd hb; obtain rfl : n = 0 := by rw [← HN.out, hb]; rfl
 clear hb; cases hsb : sdB s
 case false =>
  have HQ := Hd (show P = (Sd.of 0, 340) by rw [HPQ.out, if_neg (fun h => by rw [hsb] at h; exact absurd h.2.2 (by decide))]); have HSB := Hd hsb; clear hsb; have fM := HM.out.fa; have hE0 : Keeps NoB wk wk.drew := (Keeps.refl _ _).drew; refine rgE qDocParseW0 [17, 19, 21] [13, 18] [] ?_ (hp := (plan3 [0, 1, 3, 7, 15, 31, 63, 127, 255, 511, 1023, 2047, 4095, 8191, 16383, 32767, 65535, 131071, 262143, 524287, 131071, 1179647, 4194303, 8388607] (by kernel_rfl) rfl (by kernel_rfl))); simp only [qDocParseW0, planL, nL]; iterate 5 (first | (refine pM _ rfl rfl ?_; simp only [nP, nE]) | (refine pR (by rfl) (fun W => by go_simp <;> with_reducible rfl) ?_; simp only [nP]) | (refine pX (by rfl) (by go_simp <;> with_reducible rfl) ?_; simp only [nP]))
  iterate 2 ((refine pR rfl (fun W => by go_simp <;> with_reducible rfl) ?_; simp only [nP]))
  refine pX rfl (by go_simp <;> with_reducible rfl) ?_; simp only [nP]; iterate 2 ((refine pR rfl (fun W => by go_simp <;> with_reducible rfl) ?_; simp only [nP]))
  refine pR rfl (fun W => by go_simp <;> with_reducible rfl) ?_; simp only [nP]; refine pM _ rfl rfl ?_; simp only [nP, nE]; refine pX rfl (by go_simp <;> with_reducible rfl) ?_; simp only [nP]; refine plan_does rfl (fun K hK => ?_); go_wp2_with fail; refine (docRight_any W _ hT (HE.out.ext ((HM.out.extTo).ext hE0)) s (by have := HS.out.2; unfold Short at this; omega)).mono ?_; rintro e w6 ⟨rfl, hU⟩; rw [HSB.out]; have hE2 := hE0.ext hU; replace HM := Hd (HM.out.ext hE2); clear hU; refine hK _ _ ⟨ClsE.of (by assumption), ?_⟩; clear hK K; try simp only [nP]
  iterate 10 (first | (refine plan_skip rfl ?_; simp only [nP]) | (refine pM _ rfl rfl ?_; simp only [nP, nE]) | (refine pR (by rfl) (fun W => by go_simp <;> with_reducible rfl) ?_; simp only [nP]))
  refine plan_nil ?_; simp only [tailL, List.filterMap_nil]; clear fM; have fM := HM.out.fa; go_wp2_with fail; all_goals clear fM
  refine nxt HM fun w9 M => ?_
  replace HM := M; clear M; obtain ⟨Ahb, hb⟩ := HM.out.get (r := cellsR k0 37 [.int .i64 0, .int .i64 0, .int .i64 0, .int .i64 0, .bool false, .string ⟨#[]⟩, .string ⟨#[]⟩, .int .i64 0, .int .i64 0, .int .i64 0, .string ⟨#[]⟩]) pk; refine bodyPost_ret (results_ct Tryz.results110 _ rfl (run_loadVar_row w9 _ _ 37 _ (0, 0) _ hb.2 Tryz.underlying37 rfl (by kernel_rfl))) rfl ?_; exact ⟨by rw [HQ.out]; rfl, HM.out.extTo⟩
 have HQ := Hd (show P = (s, 0) by rw [HPQ.out, if_pos ⟨HE0'.out, HB0.out, hsb⟩])
 have HBL := Hd (show bodyL s = l by
  have := parse_back l (by rw [HPL.out, HQ.out]); rw [HPL.out, HQ.out] at this; exact this.1)
 have HSB := Hd hsb; clear hsb; have hcv0 : ∀ y : ExtW wk, (convert 27 9 (.slice a l.length c)).run Tryz.prog y.w = .ok (.string (bs l)) y.w := fun y => ((HV.out.ext HM.out.extTo).ext y.h).str
 have fM := HM.out.fa; have hE0 : Keeps NoB wk wk.drew := (Keeps.refl _ _).drew; refine rgE [(0, 0), (0, 1), (3, 2), (0, 3), (0, 4), (0, 5), (0, 6), (3, 7), (0, 8), (0, 9), (0, 10), (0, 11), (3, 12), (2, 13), (0, 14), (0, 15), (0, 16), (1, 17), (0, 20), (1, 21), (2, 18), (2, 19), (0, 22), (0, 23)] [17, 21] [13, 18, 19] [] ?_ (hp := (plan3 [0, 1, 3, 7, 15, 31, 63, 127, 255, 511, 1023, 2047, 4095, 8191, 16383, 32767, 65535, 131071, 262143, 524287, 131071, 1179647, 4194303, 8388607] (by kernel_rfl) rfl (by kernel_rfl))); simp only [planL, nL]; iterate 5 (first | (refine pM _ rfl rfl ?_; simp only [nP, nE]) | (refine pR (by rfl) (fun W => by go_simp <;> with_reducible rfl) ?_; simp only [nP]) | (refine pX (by rfl) (by go_simp <;> with_reducible rfl) ?_; simp only [nP]))
 iterate 2 ((refine pR rfl (fun W => by go_simp <;> with_reducible rfl) ?_; simp only [nP]))
 refine pX rfl (by go_simp <;> with_reducible rfl) ?_; simp only [nP]; iterate 2 ((refine pR rfl (fun W => by go_simp <;> with_reducible rfl) ?_; simp only [nP]))
 refine pR rfl (fun W => by go_simp <;> with_reducible rfl) ?_; simp only [nP]; refine pM _ rfl rfl ?_; simp only [nP, nE]; refine pX rfl (by go_simp <;> with_reducible rfl) ?_; simp only [nP]; refine plan_does rfl (fun K hK => ?_); go_wp2_with fail; refine (docRight_any W _ hT (HE.out.ext ((HM.out.extTo).ext hE0)) s (by have := HS.out.2; unfold Short at this; omega)).mono ?_; rintro e w6 ⟨rfl, hU⟩; rw [HSB.out]; have hE6 := hE0.ext hU; replace HM := Hd (HM.out.ext hE6); clear hU; refine hK _ _ ⟨ClsE.of (by assumption), ?_⟩; clear hK K; try simp only [nP]
 iterate 6 (first | (refine pM _ rfl rfl ?_; simp only [nP, nE]) | (refine pR (by rfl) (fun W => by go_simp <;> with_reducible rfl) ?_; simp only [nP]) | (refine pL (by rfl) (fun W => by go_simp <;> with_reducible rfl) ?_; simp only [nP]))
 refine plan_does rfl (fun K hK => ?_); go_wp2_with fail; refine (docBody_any _ s HSB.out (by have := HS.out.2; unfold Short at this; omega)).mono ?_; rintro e w7 ⟨v7, rfl, hU⟩; obtain ⟨hb7, hE1⟩ := hU.byt; have hE7 := hE6.ext hE1; rw [HBL.out] at hb7; have hcv2 := hb7.str; replace HM := Hd (HM.out.ext hE1); clear hU hb7 hE1; refine hK _ _ ⟨ClsE.of (by assumption), ?_⟩; clear hK K; try simp only [nP]
 refine plan_does rfl (fun K hK => ?_); go_wp2_with fail; refine ⟨ClsE.of (by repeat (first | assumption | exact Keeps.refl _ _ | refine Keeps.alloc ?_ _ | refine Keeps.setOne ?_ _ _ | refine Keeps.setCell ?_ _ _ (.inl (by first | rfl | exact .inl rfl | exact .inr rfl | omega)) | refine Keeps.drew ?_)), ?_⟩; try simp only [nP]
 iterate 2 (refine pR rfl (fun W => by go_simp <;> with_reducible rfl) ?_; simp only [nP])
 refine plan_nil ?_; simp only [tailL, List.filterMap_nil]; clear fM; clear hcv0 hcv2; have fM := HM.out.fa; go_wp2_with fail; all_goals clear fM
 refine nxt HM fun w9 M => ?_
 replace HM := M; clear M; obtain ⟨Ahb, hb⟩ := HM.out.get (r := cellsR k0 37 s.cells) pk; refine bodyPost_ret (results_ct Tryz.results110 _ rfl (run_loadVar_row w9 _ _ 37 _ (0, 0) _ hb.2 Tryz.underlying37 rfl (by kernel_rfl))) rfl ?_; exact ⟨by rw [HQ.out]; rfl, HM.out.extTo⟩
end Go.Proofs.YtoadjbgpfihoiaaGreatDoor
