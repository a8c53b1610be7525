/- Texts DocParseW, Parses, OB, Bent, one behind the other. Conditions: as each says. -/
import Derived.Test.YtcfgnbbiljohjaaGreatDoorPkL
section
/- The document's Parse: what a body says. Conditions: unicode/utf8's tables read as they are laid; the bytes lie as 'Bytes' says. -/
set_option linter.unusedVariables false
set_option linter.unusedSimpArgs false
set_option maxHeartbeats 4000000
set_option maxRecDepth 10000
namespace Go.Proofs.YtcfgnbbiljohjaaGreatDoor
open Go.RowKit
theorem docParse_any {A : Nat → Prop} (W w : World) (hT : Tabs W) (hE : Ext W w) (v : Value) (l : List UInt8) (h : Bytes w A v l) (hA : ∀ k, A k → k < w.heap.size) (hl : l.length ≤ 70368744177664) :
    Calls Tryz.prog 17 #[v] w fun e w' => e = .returned (.tuple #[(parseL l).1.v, .int .i64 (parseL l).2]) ∧ Ext w w' := by
  obtain ⟨a, c, rfl⟩ := h.len
  have HM := Lib.hid (Mem.start0 w)
  have HE := Lib.hid hE
  have HV := Lib.hid h
  have HA := Lib.hid hA
  have HLL := Lib.hid hl
  obtain ⟨P, hP⟩ : ∃ P, parseL l = P := ⟨_, rfl⟩
  rw [hP]
  have HPL := Lib.hid hP
  clear hE h hA hl hP
  go_enter Tryz.func17, Tryz.ntmps17
  have fM := HM.out.fa
  go_wp2_with fail
  all_goals clear fM
  refine nxt HM fun w1 M => ?_
  clear HM; have HM := M; clear M
  have he1 := HM.out.extTo
  refine (docNum_any w1 ⟨l, 0⟩ _ 12 HLL.out ⟨a, c, rfl, HV.out.ext he1⟩ (fun k hk => Nat.lt_of_lt_of_le (HA.out k hk) he1.size)).mono ?_
  rintro e w2 ⟨⟨y, rfl, hy⟩, hE2⟩
  clear he1
  have HPQ := Lib.hid (show P = (let x := takeAll ((partsOf ((⟨l, 0⟩ : Rdr).num 12).2.1).getD []) ((⟨l, 0⟩ : Rdr).num 12).1 (Sd.of ((⟨l, 0⟩ : Rdr).num 12).2.1)
    if ((⟨l, 0⟩ : Rdr).num 12).2.2 = 0 ∧ x.1.e = 0 ∧ x.1.b = [] ∧ sdB x.2 = true then (x.2, 0) else (Sd.of 0, 340)) from HPL.out.symm)
  have hno := (⟨l, 0⟩ : Rdr).num_e' 12 (by decide)
  have hnl := (⟨l, 0⟩ : Rdr).num_len 12
  have hnt := (⟨l, 0⟩ : Rdr).num_lt 12 (by decide)
  obtain ⟨⟨r, n, no⟩, hq⟩ : ∃ q, (⟨l, 0⟩ : Rdr).num 12 = q := ⟨_, rfl⟩
  rw [hq] at hy HPQ hno hnl hnt ⊢
  dsimp only at hy HPQ hno hnl hnt ⊢
  subst hno
  clear hq
  obtain ⟨k, hk⟩ : ∃ k : Int, (n : Int) = k := ⟨_, rfl⟩
  have HK := Lib.hid (show 0 ≤ k ∧ k ≤ 12 by omega)
  rw [hk] at HPQ ⊢
  clear hk hnt
  obtain ⟨Z, hZ⟩ : ∃ Z, dF0 k r (Sd.of k) = Z := ⟨_, rfl⟩
  rw [← dF_eq k HK.out, hZ] at HPQ
  have hst : Z.1.e = 0 → r.e = 0 := fun h => by
    by_cases he : r.e = 0
    · exact he
    · rw [← hZ, dF_eq k HK.out] at h
      exact absurd h (takeAll_sticky _ _ he)
  replace HPQ := Lib.hid (show P = if Z.1.e = 0 ∧ Z.1.b = [] ∧ sdB Z.2 = true then (Z.2, 0) else (Sd.of 0, 340) by
    rw [HPQ.out]
    by_cases h : Z.1.e = 0 ∧ Z.1.b = [] ∧ sdB Z.2 = true
    · rw [if_pos h, if_pos ⟨hst h.1, h⟩]
    · rw [if_neg h, if_neg (fun g => h g.2)])
  clear hst
  have HZ := Lib.hid hZ
  have HLR := Lib.hid (show r.b.length ≤ 70368744177664 from Nat.le_trans hnl HLL.out)
  clear hZ hnl
  obtain ⟨a2, c2, rfl, hb2⟩ := hy
  have HB := Lib.hid hb2
  replace HM := Lib.hid (HM.out.ext hE2)
  have HE2 := Lib.hid HM.out.extTo
  clear hb2 hE2
  have fM := HM.out.fa
  go_upto_region 4 with fail
  clear fM
  refine nxt HM fun w3 M => ?_
  clear HM; have HM := M; clear M
  obtain ⟨k0, hk0⟩ : ∃ x, w.heap.size = x := ⟨_, rfl⟩
  obtain ⟨kr, hkr⟩ : ∃ x, w.heap.size + 1 = x := ⟨_, rfl⟩
  obtain ⟨ks, hks⟩ : ∃ x, w2.heap.size = x := ⟨_, rfl⟩
  rw [hkr, hk0, hks] at HM ⊢
  obtain ⟨s, hs⟩ : ∃ s, Sd.of k = s := ⟨_, rfl⟩
  have hm0 : Mem NoB w w3 [cellsR ks 27 (Sd.of k).cells, cellsR kr 91 [.slice a2 r.b.length c2, .int .i64 r.e], cellsR k0 27 (Sd.of 0).cells] := HM.out
  have HB := Lib.hid (HB.out.swap HA.out HE2.out HM.out.extTo)
  rw [hs] at HZ hm0
  have HS := Lib.hid (show s.e = En0 ∧ s.kind = k ∧ Short s by rw [← hs]; exact ⟨rfl, rfl, Nat.zero_le _, Nat.zero_le _, Nat.zero_le _⟩)
  unfold Sd.cells at hm0
  replace HM := Lib.hid hm0
  clear hm0 hs
  clear hk0 hkr hks
  go_cut [34] from 15 to 34 (fun s wx => s = .bool (decide (k = 1 ∨ k = 10 ∨ k = 11)) ∧ w3 = wx)
  case first =>
    by_cases h1 : k = 1
    · have d1 : (k == 1) = true := by simpa using h1
      have HD := Lib.hid (show decide (k = 1 ∨ k = 10 ∨ k = 11) = true from decide_eq_true (.inl h1))
      clear h1
      go_wp2_with fail
      go_meet
      case rel => exact ⟨by rw [HD.out], rfl⟩
    · have d1 : (k == 1) = false := by simpa using h1
      by_cases h2 : k = 10
      · have d2 : (k == 10) = true := by simpa using h2
        have HD := Lib.hid (show decide (k = 1 ∨ k = 10 ∨ k = 11) = true from decide_eq_true (.inr (.inl h2)))
        clear h1 h2
        go_wp2_with fail
        go_meet
        case rel => exact ⟨by rw [HD.out], rfl⟩
      · have d2 : (k == 10) = false := by simpa using h2
        by_cases h3 : k = 11
        · have d3 : (k == 11) = true := by simpa using h3
          have HD := Lib.hid (show decide (k = 1 ∨ k = 10 ∨ k = 11) = true from decide_eq_true (.inr (.inr h3)))
          clear h1 h2 h3
          go_wp2_with fail
          go_meet
          case rel => exact ⟨by rw [HD.out], rfl⟩
        · have d3 : (k == 11) = false := by simpa using h3
          have HD := Lib.hid (show decide (k = 1 ∨ k = 10 ∨ k = 11) = false from decide_eq_false (fun h => h.elim h1 fun h => h.elim h2 h3))
          clear h1 h2 h3
          go_wp2_with fail
          go_meet
          case rel => exact ⟨by rw [HD.out], rfl⟩
  obtain ⟨rfl, rfl⟩ := hcut
  go_upto_if 34 with fail
  go_cut [] from 34 to 42 (fun wx => ∃ r s a2 c2, Hid (dF1 k r s = Z) ∧ Hid (s.e = En0 ∧ s.kind = k ∧ Short s) ∧ Hid (r.b.length ≤ 70368744177664) ∧ Hid (Bytes wx A (.slice a2 r.b.length c2) r.b) ∧ Hid (Mem NoB w wx [cellsR ks 27 s.cells, cellsR kr 91 [.slice a2 r.b.length c2, .int .i64 r.e], cellsR k0 27 (Sd.of 0).cells]))
  case first =>
    by_cases hd : k = 1 ∨ k = 10 ∨ k = 11
    · have HD := Lib.hid hd
      rw [decide_eq_true hd]
      clear hd
      have fM := HM.out.fa
      go_wp2_with fail
      all_goals clear fM
      refine (docNum_any _ r _ 15 HLR.out ⟨_, _, rfl, HB.out⟩ (fun b hb => Nat.lt_of_lt_of_le (HA.out b hb) HM.out.extTo.size)).mono ?_
      rintro e w4 ⟨⟨y, rfl, hy⟩, hE2⟩
      obtain ⟨⟨r2, m, no⟩, hq⟩ : ∃ q, r.num 15 = q := ⟨_, rfl⟩
      have HTm := Lib.hid hq
      have hln := r.num_len 15
      rw [hq] at hy hln ⊢
      dsimp only at hy hln ⊢
      have HLm := Lib.hid (Nat.le_trans hln HLR.out)
      obtain ⟨a3, c3, rfl, hb3⟩ := hy
      have HBm := Lib.hid hb3
      clear hq hb3 hln
      replace HM := Lib.hid (HM.out.ext hE2)
      clear hE2
      have HEm := Lib.hid HM.out.extTo
      have fM := HM.out.fa
      go_wp2_with fail
      all_goals clear fM
      refine nxt HM fun w5 M => ?_
      clear HM; have HM := M; clear M
      go_meet
      case rel =>
        have hpt : Part.member.take r s = (r2, { s with member := m }) := by
          unfold Part.take
          dsimp only
          rw [HTm.out]
        exact ⟨r2, { s with member := m }, _, _, Lib.hid (by have := HZ.out; unfold dF0 at this; rw [if_pos HD.out, hpt] at this; exact this), Lib.hid ⟨HS.out.1, HS.out.2.1, by have := Part.member.take_short r s HS.out.2.2; rw [hpt] at this; exact this⟩, HLm, Lib.hid (HBm.out.swap HA.out HEm.out HM.out.extTo), Lib.hid (Mem.sub HM.out (by repeat first | exact Sub.nil | refine Sub.cons (by with_reducible repeat first | exact ph | apply pt) ?_))⟩
    · have HD := Lib.hid hd
      rw [decide_eq_false hd]
      clear hd
      have fM := HM.out.fa
      go_wp2_with fail
      all_goals clear fM
      go_meet
      case rel => exact ⟨r, s, _, _, Lib.hid (by have := HZ.out; unfold dF0 at this; rw [if_neg HD.out] at this; exact this), HS, HLR, HB, Lib.hid (Mem.sub HM.out (by repeat first | exact Sub.nil | refine Sub.cons (by with_reducible repeat first | exact ph | apply pt) ?_))⟩
  clear HZ HS HLR HB HM
  obtain ⟨r, s, a2, c2, HZ, HS, HLR, HB, HM⟩ := hcut
  unfold Sd.cells at HM
  obtain ⟨wk, hwk⟩ : ∃ x, x = wc := ⟨_, rfl⟩
  subst hwk
  have fM := HM.out.fa
  go_upto_region 7 with fail
  clear fM
  go_cut [48] from 43 to 48 (fun s wx => s = .bool (decide (k = 4 ∨ k = 12)) ∧ wk = wx)
  case first =>
    by_cases h1 : k = 4
    · have d1 : (k == 4) = true := by simpa using h1
      have HD := Lib.hid (show decide (k = 4 ∨ k = 12) = true from decide_eq_true (.inl h1))
      clear h1
      go_wp2_with fail
      go_meet
      case rel => exact ⟨by rw [HD.out], rfl⟩
    · have d1 : (k == 4) = false := by simpa using h1
      by_cases h2 : k = 12
      · have d2 : (k == 12) = true := by simpa using h2
        have HD := Lib.hid (show decide (k = 4 ∨ k = 12) = true from decide_eq_true (.inr h2))
        clear h1 h2
        go_wp2_with fail
        go_meet
        case rel => exact ⟨by rw [HD.out], rfl⟩
      · have d2 : (k == 12) = false := by simpa using h2
        have HD := Lib.hid (show decide (k = 4 ∨ k = 12) = false from decide_eq_false (fun h => h.elim h1 h2))
        clear h1 h2
        go_wp2_with fail
        go_meet
        case rel => exact ⟨by rw [HD.out], rfl⟩
  obtain ⟨rfl, rfl⟩ := hcut
  go_upto_if 48 with fail
  go_cut [] from 48 to 54 (fun wx => ∃ r s a2 c2, Hid (dF2 k r s = Z) ∧ Hid (s.e = En0 ∧ s.kind = k ∧ Short s) ∧ Hid (r.b.length ≤ 70368744177664) ∧ Hid (Bytes wx A (.slice a2 r.b.length c2) r.b) ∧ Hid (Mem NoB w wx [cellsR ks 27 s.cells, cellsR kr 91 [.slice a2 r.b.length c2, .int .i64 r.e], cellsR k0 27 (Sd.of 0).cells]))
  case first =>
    by_cases hd : k = 4 ∨ k = 12
    · have HD := Lib.hid hd
      rw [decide_eq_true hd]
      clear hd
      have fM := HM.out.fa
      go_wp2_with fail
      all_goals clear fM
      refine (docNum_any _ r _ 2147483647 HLR.out ⟨_, _, rfl, HB.out⟩ (fun b hb => Nat.lt_of_lt_of_le (HA.out b hb) HM.out.extTo.size)).mono ?_
      rintro e w4 ⟨⟨y, rfl, hy⟩, hE2⟩
      obtain ⟨⟨r2, m, no⟩, hq⟩ : ∃ q, r.num 2147483647 = q := ⟨_, rfl⟩
      have HTm := Lib.hid hq
      have hln := r.num_len 2147483647
      rw [hq] at hy hln ⊢
      dsimp only at hy hln ⊢
      have HLm := Lib.hid (Nat.le_trans hln HLR.out)
      obtain ⟨a3, c3, rfl, hb3⟩ := hy
      have HBm := Lib.hid hb3
      clear hq hb3 hln
      replace HM := Lib.hid (HM.out.ext hE2)
      clear hE2
      have HEm := Lib.hid HM.out.extTo
      have fM := HM.out.fa
      go_wp2_with fail
      all_goals clear fM
      refine nxt HM fun w5 M => ?_
      clear HM; have HM := M; clear M
      go_meet
      case rel =>
        have hpt : (Part.number 0).take r s = (r2, { s with number := m }) := by
          unfold Part.take
          dsimp only
          rw [HTm.out]
        exact ⟨r2, { s with number := m }, _, _, Lib.hid (by have := HZ.out; unfold dF1 at this; rw [if_pos HD.out, hpt] at this; exact this), Lib.hid ⟨HS.out.1, HS.out.2.1, by have := (Part.number 0).take_short r s HS.out.2.2; rw [hpt] at this; exact this⟩, HLm, Lib.hid (HBm.out.swap HA.out HEm.out HM.out.extTo), Lib.hid (Mem.sub HM.out (by repeat first | exact Sub.nil | refine Sub.cons (by with_reducible repeat first | exact ph | apply pt) ?_))⟩
    · have HD := Lib.hid hd
      rw [decide_eq_false hd]
      clear hd
      have fM := HM.out.fa
      go_wp2_with fail
      all_goals clear fM
      go_meet
      case rel => exact ⟨r, s, _, _, Lib.hid (by have := HZ.out; unfold dF1 at this; rw [if_neg HD.out] at this; exact this), HS, HLR, HB, Lib.hid (Mem.sub HM.out (by repeat first | exact Sub.nil | refine Sub.cons (by with_reducible repeat first | exact ph | apply pt) ?_))⟩
  clear HZ HS HLR HB HM
  obtain ⟨r, s, a2, c2, HZ, HS, HLR, HB, HM⟩ := hcut
  unfold Sd.cells at HM
  obtain ⟨wk, hwk⟩ : ∃ x, x = wc := ⟨_, rfl⟩
  subst hwk
  have fM := HM.out.fa
  go_upto_region 9 with fail
  clear fM
  go_cut [64] from 55 to 64 (fun s wx => s = .bool (decide (k = 5 ∨ k = 8 ∨ k = 9)) ∧ wk = wx)
  case first =>
    by_cases h1 : k = 5
    · have d1 : (k == 5) = true := by simpa using h1
      have HD := Lib.hid (show decide (k = 5 ∨ k = 8 ∨ k = 9) = true from decide_eq_true (.inl h1))
      clear h1
      go_wp2_with fail
      go_meet
      case rel => exact ⟨by rw [HD.out], rfl⟩
    · have d1 : (k == 5) = false := by simpa using h1
      by_cases h2 : k = 8
      · have d2 : (k == 8) = true := by simpa using h2
        have HD := Lib.hid (show decide (k = 5 ∨ k = 8 ∨ k = 9) = true from decide_eq_true (.inr (.inl h2)))
        clear h1 h2
        go_wp2_with fail
        go_meet
        case rel => exact ⟨by rw [HD.out], rfl⟩
      · have d2 : (k == 8) = false := by simpa using h2
        by_cases h3 : k = 9
        · have d3 : (k == 9) = true := by simpa using h3
          have HD := Lib.hid (show decide (k = 5 ∨ k = 8 ∨ k = 9) = true from decide_eq_true (.inr (.inr h3)))
          clear h1 h2 h3
          go_wp2_with fail
          go_meet
          case rel => exact ⟨by rw [HD.out], rfl⟩
        · have d3 : (k == 9) = false := by simpa using h3
          have HD := Lib.hid (show decide (k = 5 ∨ k = 8 ∨ k = 9) = false from decide_eq_false (fun h => h.elim h1 fun h => h.elim h2 h3))
          clear h1 h2 h3
          go_wp2_with fail
          go_meet
          case rel => exact ⟨by rw [HD.out], rfl⟩
  obtain ⟨rfl, rfl⟩ := hcut
  go_upto_if 64 with fail
  go_cut [] from 64 to 70 (fun wx => ∃ r s a2 c2, Hid (dF3 k r s = Z) ∧ Hid (s.e = En0 ∧ s.kind = k ∧ Short s) ∧ Hid (r.b.length ≤ 70368744177664) ∧ Hid (Bytes wx A (.slice a2 r.b.length c2) r.b) ∧ Hid (Mem NoB w wx [cellsR ks 27 s.cells, cellsR kr 91 [.slice a2 r.b.length c2, .int .i64 r.e], cellsR k0 27 (Sd.of 0).cells]))
  case first =>
    by_cases hd : k = 5 ∨ k = 8 ∨ k = 9
    · have HD := Lib.hid hd
      rw [decide_eq_true hd]
      clear hd
      have fM := HM.out.fa
      go_wp2_with fail
      all_goals clear fM
      refine (docNum_any _ r _ 2147483647 HLR.out ⟨_, _, rfl, HB.out⟩ (fun b hb => Nat.lt_of_lt_of_le (HA.out b hb) HM.out.extTo.size)).mono ?_
      rintro e w4 ⟨⟨y, rfl, hy⟩, hE2⟩
      obtain ⟨⟨r2, m, no⟩, hq⟩ : ∃ q, r.num 2147483647 = q := ⟨_, rfl⟩
      have HTm := Lib.hid hq
      have hln := r.num_len 2147483647
      rw [hq] at hy hln ⊢
      dsimp only at hy hln ⊢
      have HLm := Lib.hid (Nat.le_trans hln HLR.out)
      obtain ⟨a3, c3, rfl, hb3⟩ := hy
      have HBm := Lib.hid hb3
      clear hq hb3 hln
      replace HM := Lib.hid (HM.out.ext hE2)
      clear hE2
      have HEm := Lib.hid HM.out.extTo
      have fM := HM.out.fa
      go_wp2_with fail
      all_goals clear fM
      refine nxt HM fun w5 M => ?_
      clear HM; have HM := M; clear M
      go_meet
      case rel =>
        have hpt : Part.index.take r s = (r2, { s with index := m }) := by
          unfold Part.take
          dsimp only
          rw [HTm.out]
        exact ⟨r2, { s with index := m }, _, _, Lib.hid (by have := HZ.out; unfold dF2 at this; rw [if_pos HD.out, hpt] at this; exact this), Lib.hid ⟨HS.out.1, HS.out.2.1, by have := Part.index.take_short r s HS.out.2.2; rw [hpt] at this; exact this⟩, HLm, Lib.hid (HBm.out.swap HA.out HEm.out HM.out.extTo), Lib.hid (Mem.sub HM.out (by repeat first | exact Sub.nil | refine Sub.cons (by with_reducible repeat first | exact ph | apply pt) ?_))⟩
    · have HD := Lib.hid hd
      rw [decide_eq_false hd]
      clear hd
      have fM := HM.out.fa
      go_wp2_with fail
      all_goals clear fM
      go_meet
      case rel => exact ⟨r, s, _, _, Lib.hid (by have := HZ.out; unfold dF2 at this; rw [if_neg HD.out] at this; exact this), HS, HLR, HB, Lib.hid (Mem.sub HM.out (by repeat first | exact Sub.nil | refine Sub.cons (by with_reducible repeat first | exact ph | apply pt) ?_))⟩
  clear HZ HS HLR HB HM
  obtain ⟨r, s, a2, c2, HZ, HS, HLR, HB, HM⟩ := hcut
  unfold Sd.cells at HM
  obtain ⟨wk, hwk⟩ : ∃ x, x = wc := ⟨_, rfl⟩
  subst hwk
  have fM := HM.out.fa
  go_upto_region 11 with fail
  clear fM
  go_cut [80] from 71 to 80 (fun s wx => s = .bool (decide (k = 7 ∨ k = 10 ∨ k = 11)) ∧ wk = wx)
  case first =>
    by_cases h1 : k = 7
    · have d1 : (k == 7) = true := by simpa using h1
      have HD := Lib.hid (show decide (k = 7 ∨ k = 10 ∨ k = 11) = true from decide_eq_true (.inl h1))
      clear h1
      go_wp2_with fail
      go_meet
      case rel => exact ⟨by rw [HD.out], rfl⟩
    · have d1 : (k == 7) = false := by simpa using h1
      by_cases h2 : k = 10
      · have d2 : (k == 10) = true := by simpa using h2
        have HD := Lib.hid (show decide (k = 7 ∨ k = 10 ∨ k = 11) = true from decide_eq_true (.inr (.inl h2)))
        clear h1 h2
        go_wp2_with fail
        go_meet
        case rel => exact ⟨by rw [HD.out], rfl⟩
      · have d2 : (k == 10) = false := by simpa using h2
        by_cases h3 : k = 11
        · have d3 : (k == 11) = true := by simpa using h3
          have HD := Lib.hid (show decide (k = 7 ∨ k = 10 ∨ k = 11) = true from decide_eq_true (.inr (.inr h3)))
          clear h1 h2 h3
          go_wp2_with fail
          go_meet
          case rel => exact ⟨by rw [HD.out], rfl⟩
        · have d3 : (k == 11) = false := by simpa using h3
          have HD := Lib.hid (show decide (k = 7 ∨ k = 10 ∨ k = 11) = false from decide_eq_false (fun h => h.elim h1 fun h => h.elim h2 h3))
          clear h1 h2 h3
          go_wp2_with fail
          go_meet
          case rel => exact ⟨by rw [HD.out], rfl⟩
  obtain ⟨rfl, rfl⟩ := hcut
  go_upto_if 80 with fail
  go_cut [] from 80 to 91 (fun wx => ∃ r s a2 c2, Hid (dF4 k r s = Z) ∧ Hid (s.e = En0 ∧ s.kind = k ∧ Short s) ∧ Hid (r.b.length ≤ 70368744177664) ∧ Hid (Bytes wx A (.slice a2 r.b.length c2) r.b) ∧ Hid (Mem NoB w wx [cellsR ks 27 s.cells, cellsR kr 91 [.slice a2 r.b.length c2, .int .i64 r.e], cellsR k0 27 (Sd.of 0).cells]))
  case first =>
    by_cases hd : k = 7 ∨ k = 10 ∨ k = 11
    · have HD := Lib.hid hd
      rw [decide_eq_true hd]
      clear hd
      have fM := HM.out.fa
      go_wp2_with fail
      all_goals clear fM
      refine (rvtru_any _ r _ HLR.out ⟨_, _, rfl, HB.out⟩ (fun b hb => Nat.lt_of_lt_of_le (HA.out b hb) HM.out.extTo.size)).mono ?_
      rintro e w4 ⟨⟨y, rfl, hy⟩, hE2⟩
      obtain ⟨⟨r2, m, no⟩, hq⟩ : ∃ q, r.tru = q := ⟨_, rfl⟩
      have HTm := Lib.hid hq
      have hln := r.tru_len
      rw [hq] at hy hln ⊢
      dsimp only at hy hln ⊢
      have HLm := Lib.hid (Nat.le_trans hln HLR.out)
      obtain ⟨a3, c3, rfl, hb3⟩ := hy
      have HBm := Lib.hid hb3
      clear hq hb3 hln
      replace HM := Lib.hid (HM.out.ext hE2)
      clear hE2
      have HEm := Lib.hid HM.out.extTo
      have fM := HM.out.fa
      go_wp2_with fail
      all_goals clear fM
      refine nxt HM fun w5 M => ?_
      clear HM; have HM := M; clear M
      go_meet
      case rel =>
        have hpt : Part.is.take r s = (r2, { s with is := m }) := by
          unfold Part.take
          dsimp only
          rw [HTm.out]
        exact ⟨r2, { s with is := m }, _, _, Lib.hid (by have := HZ.out; unfold dF3 at this; rw [if_pos HD.out, hpt] at this; exact this), Lib.hid ⟨HS.out.1, HS.out.2.1, by have := Part.is.take_short r s HS.out.2.2; rw [hpt] at this; exact this⟩, HLm, Lib.hid (HBm.out.swap HA.out HEm.out HM.out.extTo), Lib.hid (Mem.sub HM.out (by repeat first | exact Sub.nil | refine Sub.cons (by with_reducible repeat first | exact ph | apply pt) ?_))⟩
    · have HD := Lib.hid hd
      rw [decide_eq_false hd]
      clear hd
      have fM := HM.out.fa
      go_wp2_with fail
      all_goals clear fM
      go_meet
      case rel => exact ⟨r, s, _, _, Lib.hid (by have := HZ.out; unfold dF3 at this; rw [if_neg HD.out] at this; exact this), HS, HLR, HB, Lib.hid (Mem.sub HM.out (by repeat first | exact Sub.nil | refine Sub.cons (by with_reducible repeat first | exact ph | apply pt) ?_))⟩
  clear HZ HS HLR HB HM
  obtain ⟨r, s, a2, c2, HZ, HS, HLR, HB, HM⟩ := hcut
  unfold Sd.cells at HM
  obtain ⟨wk, hwk⟩ : ∃ x, x = wc := ⟨_, rfl⟩
  subst hwk
  have fM := HM.out.fa
  go_upto_region 14 with fail
  clear fM
  go_cut [93] from 92 to 93 (fun s wx => s = .bool (decide (k = 4)) ∧ wk = wx)
  case first =>
    by_cases h1 : k = 4
    · have d1 : (k == 4) = true := by simpa using h1
      have HD := Lib.hid (show decide (k = 4) = true from decide_eq_true h1)
      clear h1
      go_wp2_with fail
      go_meet
      case rel => exact ⟨by rw [HD.out], rfl⟩
    · have d1 : (k == 4) = false := by simpa using h1
      have HD := Lib.hid (show decide (k = 4) = false from decide_eq_false h1)
      clear h1
      go_wp2_with fail
      go_meet
      case rel => exact ⟨by rw [HD.out], rfl⟩
  obtain ⟨rfl, rfl⟩ := hcut
  go_upto_if 93 with fail
  go_cut [] from 93 to 99 (fun wx => ∃ r s a2 c2, Hid (dF5 k r s = Z) ∧ Hid (s.e = En0 ∧ s.kind = k ∧ Short s) ∧ Hid (r.b.length ≤ 70368744177664) ∧ Hid (Bytes wx A (.slice a2 r.b.length c2) r.b) ∧ Hid (Mem NoB w wx [cellsR ks 27 s.cells, cellsR kr 91 [.slice a2 r.b.length c2, .int .i64 r.e], cellsR k0 27 (Sd.of 0).cells]))
  case first =>
    by_cases hd : k = 4
    · have HD := Lib.hid hd
      rw [decide_eq_true hd]
      clear hd
      have fM := HM.out.fa
      go_wp2_with fail
      all_goals clear fM
      refine (docTxt_any _ r _ HLR.out ⟨_, _, rfl, HB.out⟩ (fun b hb => Nat.lt_of_lt_of_le (HA.out b hb) HM.out.extTo.size)).mono ?_
      rintro e w4 ⟨⟨y, rfl, hy⟩, hE2⟩
      obtain ⟨⟨r2, m, no⟩, hq⟩ : ∃ q, r.txt 200 = q := ⟨_, rfl⟩
      have HTm := Lib.hid hq
      have hln := r.txt_len 200
      rw [hq] at hy hln ⊢
      dsimp only at hy hln ⊢
      have HLm := Lib.hid (Nat.le_trans hln HLR.out)
      obtain ⟨a3, c3, rfl, hb3⟩ := hy
      have HBm := Lib.hid hb3
      clear hq hb3 hln
      replace HM := Lib.hid (HM.out.ext hE2)
      clear hE2
      have HEm := Lib.hid HM.out.extTo
      have fM := HM.out.fa
      go_wp2_with fail
      all_goals clear fM
      refine nxt HM fun w5 M => ?_
      clear HM; have HM := M; clear M
      go_meet
      case rel =>
        have hpt : Part.said.take r s = (r2, { s with text := m }) := by
          unfold Part.take
          dsimp only
          rw [HTm.out]
        exact ⟨r2, { s with text := m }, _, _, Lib.hid (by have := HZ.out; unfold dF4 at this; rw [if_pos HD.out, hpt] at this; exact this), Lib.hid ⟨HS.out.1, HS.out.2.1, by have := Part.said.take_short r s HS.out.2.2; rw [hpt] at this; exact this⟩, HLm, Lib.hid (HBm.out.swap HA.out HEm.out HM.out.extTo), Lib.hid (Mem.sub HM.out (by repeat first | exact Sub.nil | refine Sub.cons (by with_reducible repeat first | exact ph | apply pt) ?_))⟩
    · have HD := Lib.hid hd
      rw [decide_eq_false hd]
      clear hd
      have fM := HM.out.fa
      go_wp2_with fail
      all_goals clear fM
      go_meet
      case rel => exact ⟨r, s, _, _, Lib.hid (by have := HZ.out; unfold dF4 at this; rw [if_neg HD.out] at this; exact this), HS, HLR, HB, Lib.hid (Mem.sub HM.out (by repeat first | exact Sub.nil | refine Sub.cons (by with_reducible repeat first | exact ph | apply pt) ?_))⟩
  clear HZ HS HLR HB HM
  obtain ⟨r, s, a2, c2, HZ, HS, HLR, HB, HM⟩ := hcut
  unfold Sd.cells at HM
  obtain ⟨wk, hwk⟩ : ∃ x, x = wc := ⟨_, rfl⟩
  subst hwk
  have fM := HM.out.fa
  go_upto_region 16 with fail
  clear fM
  go_cut [109] from 100 to 109 (fun s wx => s = .bool (decide (k = 1 ∨ k = 8 ∨ k = 9)) ∧ wk = wx)
  case first =>
    by_cases h1 : k = 1
    · have d1 : (k == 1) = true := by simpa using h1
      have HD := Lib.hid (show decide (k = 1 ∨ k = 8 ∨ k = 9) = true from decide_eq_true (.inl h1))
      clear h1
      go_wp2_with fail
      go_meet
      case rel => exact ⟨by rw [HD.out], rfl⟩
    · have d1 : (k == 1) = false := by simpa using h1
      by_cases h2 : k = 8
      · have d2 : (k == 8) = true := by simpa using h2
        have HD := Lib.hid (show decide (k = 1 ∨ k = 8 ∨ k = 9) = true from decide_eq_true (.inr (.inl h2)))
        clear h1 h2
        go_wp2_with fail
        go_meet
        case rel => exact ⟨by rw [HD.out], rfl⟩
      · have d2 : (k == 8) = false := by simpa using h2
        by_cases h3 : k = 9
        · have d3 : (k == 9) = true := by simpa using h3
          have HD := Lib.hid (show decide (k = 1 ∨ k = 8 ∨ k = 9) = true from decide_eq_true (.inr (.inr h3)))
          clear h1 h2 h3
          go_wp2_with fail
          go_meet
          case rel => exact ⟨by rw [HD.out], rfl⟩
        · have d3 : (k == 9) = false := by simpa using h3
          have HD := Lib.hid (show decide (k = 1 ∨ k = 8 ∨ k = 9) = false from decide_eq_false (fun h => h.elim h1 fun h => h.elim h2 h3))
          clear h1 h2 h3
          go_wp2_with fail
          go_meet
          case rel => exact ⟨by rw [HD.out], rfl⟩
  obtain ⟨rfl, rfl⟩ := hcut
  go_upto_if 109 with fail
  go_cut [] from 109 to 115 (fun wx => ∃ r s a2 c2, Hid (dF6 k r s = Z) ∧ Hid (s.e = En0 ∧ s.kind = k ∧ Short s) ∧ Hid (r.b.length ≤ 70368744177664) ∧ Hid (Bytes wx A (.slice a2 r.b.length c2) r.b) ∧ Hid (Mem NoB w wx [cellsR ks 27 s.cells, cellsR kr 91 [.slice a2 r.b.length c2, .int .i64 r.e], cellsR k0 27 (Sd.of 0).cells]))
  case first =>
    by_cases hd : k = 1 ∨ k = 8 ∨ k = 9
    · have HD := Lib.hid hd
      rw [decide_eq_true hd]
      clear hd
      have fM := HM.out.fa
      go_wp2_with fail
      all_goals clear fM
      refine (docTxt_any _ r _ HLR.out ⟨_, _, rfl, HB.out⟩ (fun b hb => Nat.lt_of_lt_of_le (HA.out b hb) HM.out.extTo.size)).mono ?_
      rintro e w4 ⟨⟨y, rfl, hy⟩, hE2⟩
      obtain ⟨⟨r2, m, no⟩, hq⟩ : ∃ q, r.txt 200 = q := ⟨_, rfl⟩
      have HTm := Lib.hid hq
      have hln := r.txt_len 200
      rw [hq] at hy hln ⊢
      dsimp only at hy hln ⊢
      have HLm := Lib.hid (Nat.le_trans hln HLR.out)
      obtain ⟨a3, c3, rfl, hb3⟩ := hy
      have HBm := Lib.hid hb3
      clear hq hb3 hln
      replace HM := Lib.hid (HM.out.ext hE2)
      clear hE2
      have HEm := Lib.hid HM.out.extTo
      have fM := HM.out.fa
      go_wp2_with fail
      all_goals clear fM
      refine nxt HM fun w5 M => ?_
      clear HM; have HM := M; clear M
      go_meet
      case rel =>
        have hpt : Part.token.take r s = (r2, { s with token := m }) := by
          unfold Part.take
          dsimp only
          rw [HTm.out]
        exact ⟨r2, { s with token := m }, _, _, Lib.hid (by have := HZ.out; unfold dF5 at this; rw [if_pos HD.out, hpt] at this; exact this), Lib.hid ⟨HS.out.1, HS.out.2.1, by have := Part.token.take_short r s HS.out.2.2; rw [hpt] at this; exact this⟩, HLm, Lib.hid (HBm.out.swap HA.out HEm.out HM.out.extTo), Lib.hid (Mem.sub HM.out (by repeat first | exact Sub.nil | refine Sub.cons (by with_reducible repeat first | exact ph | apply pt) ?_))⟩
    · have HD := Lib.hid hd
      rw [decide_eq_false hd]
      clear hd
      have fM := HM.out.fa
      go_wp2_with fail
      all_goals clear fM
      go_meet
      case rel => exact ⟨r, s, _, _, Lib.hid (by have := HZ.out; unfold dF5 at this; rw [if_neg HD.out] at this; exact this), HS, HLR, HB, Lib.hid (Mem.sub HM.out (by repeat first | exact Sub.nil | refine Sub.cons (by with_reducible repeat first | exact ph | apply pt) ?_))⟩
  clear HZ HS HLR HB HM
  obtain ⟨r, s, a2, c2, HZ, HS, HLR, HB, HM⟩ := hcut
  unfold Sd.cells at HM
  obtain ⟨wk, hwk⟩ : ∃ x, x = wc := ⟨_, rfl⟩
  subst hwk
  have fM := HM.out.fa
  go_upto_region 18 with fail
  clear fM
  go_cut [117] from 116 to 117 (fun s wx => s = .bool (decide (k = 9)) ∧ wk = wx)
  case first =>
    by_cases h1 : k = 9
    · have d1 : (k == 9) = true := by simpa using h1
      have HD := Lib.hid (show decide (k = 9) = true from decide_eq_true h1)
      clear h1
      go_wp2_with fail
      go_meet
      case rel => exact ⟨by rw [HD.out], rfl⟩
    · have d1 : (k == 9) = false := by simpa using h1
      have HD := Lib.hid (show decide (k = 9) = false from decide_eq_false h1)
      clear h1
      go_wp2_with fail
      go_meet
      case rel => exact ⟨by rw [HD.out], rfl⟩
  obtain ⟨rfl, rfl⟩ := hcut
  go_upto_if 117 with fail
  go_cut [] from 117 to 148 (fun wx => ∃ r s a2 c2, Hid (dF7 k r s = Z) ∧ Hid (s.kind = k ∧ Short s) ∧ Hid (r.b.length ≤ 70368744177664) ∧ Hid (Bytes wx A (.slice a2 r.b.length c2) r.b) ∧ Hid (Mem NoB w wx [cellsR ks 27 s.cells, cellsR kr 91 [.slice a2 r.b.length c2, .int .i64 r.e], cellsR k0 27 (Sd.of 0).cells]))
  case first =>
    by_cases hd : k = 9
    · have HD := Lib.hid hd
      rw [decide_eq_true hd]
      clear hd
      have fM := HM.out.fa
      go_wp2_with fail
      all_goals clear fM
      refine (docNum_any _ r _ 4 HLR.out ⟨_, _, rfl, HB.out⟩ (fun b hb => Nat.lt_of_lt_of_le (HA.out b hb) HM.out.extTo.size)).mono ?_
      rintro e w4 ⟨⟨y, rfl, hy⟩, hE2⟩
      obtain ⟨⟨r2, m, no⟩, hq⟩ : ∃ q, r.num 4 = q := ⟨_, rfl⟩
      have HTm := Lib.hid hq
      have hln := r.num_len 4
      rw [hq] at hy hln ⊢
      dsimp only at hy hln ⊢
      have HLm := Lib.hid (Nat.le_trans hln HLR.out)
      obtain ⟨a3, c3, rfl, hb3⟩ := hy
      have HBm := Lib.hid hb3
      clear hq hb3 hln
      replace HM := Lib.hid (HM.out.ext hE2)
      clear hE2
      have HEm := Lib.hid HM.out.extTo
      have fM := HM.out.fa
      go_wp2_with fail
      all_goals clear fM
      refine nxt HM fun w6 M => ?_
      clear HM; have HM := M; clear M
      have HBxm := Lib.hid (HBm.out.swap HA.out HEm.out HM.out.extTo)
      refine (docNum_any _ r2 _ 15 HLm.out ⟨_, _, rfl, HBxm.out⟩ (fun b hb => Nat.lt_of_lt_of_le (HA.out b hb) HM.out.extTo.size)).mono ?_
      rintro e w4 ⟨⟨y, rfl, hy⟩, hE2⟩
      obtain ⟨⟨r3, n3, no⟩, hq⟩ : ∃ q, r2.num 15 = q := ⟨_, rfl⟩
      have HTn3 := Lib.hid hq
      have hln := r2.num_len 15
      rw [hq] at hy hln ⊢
      dsimp only at hy hln ⊢
      have HLn3 := Lib.hid (Nat.le_trans hln HLm.out)
      obtain ⟨a3, c3, rfl, hb3⟩ := hy
      have HBn3 := Lib.hid hb3
      clear hq hb3 hln
      replace HM := Lib.hid (HM.out.ext hE2)
      clear hE2
      have HEn3 := Lib.hid HM.out.extTo
      by_cases h4 : m = 4
      · have H4 := Lib.hid h4
        have d4 : ((m : Int) == 4) = true := by simp [h4]
        clear h4
        have fM := HM.out.fa
        go_wp2_with fail
        all_goals clear fM
        refine nxt HM fun w7 M => ?_
        clear HM; have HM := M; clear M
        have HBxn3 := Lib.hid (HBn3.out.swap HA.out HEn3.out HM.out.extTo)
        refine (docNum_any _ r3 _ 2147483647 HLn3.out ⟨_, _, rfl, HBxn3.out⟩ (fun b hb => Nat.lt_of_lt_of_le (HA.out b hb) HM.out.extTo.size)).mono ?_
        rintro e w4 ⟨⟨y, rfl, hy⟩, hE2⟩
        obtain ⟨⟨r4, n4, no⟩, hq⟩ : ∃ q, r3.num 2147483647 = q := ⟨_, rfl⟩
        have HTn4 := Lib.hid hq
        have hln := r3.num_len 2147483647
        rw [hq] at hy hln ⊢
        dsimp only at hy hln ⊢
        have HLn4 := Lib.hid (Nat.le_trans hln HLn3.out)
        obtain ⟨a3, c3, rfl, hb3⟩ := hy
        have HBn4 := Lib.hid hb3
        clear hq hb3 hln
        replace HM := Lib.hid (HM.out.ext hE2)
        clear hE2
        have HEn4 := Lib.hid HM.out.extTo
        have fM := HM.out.fa
        go_wp2_with fail
        all_goals clear fM
        refine nxt HM fun w8 M => ?_
        clear HM; have HM := M; clear M
        have HBxn4 := Lib.hid (HBn4.out.swap HA.out HEn4.out HM.out.extTo)
        refine (docTxt_any _ r4 _ HLn4.out ⟨_, _, rfl, HBxn4.out⟩ (fun b hb => Nat.lt_of_lt_of_le (HA.out b hb) HM.out.extTo.size)).mono ?_
        rintro e w4 ⟨⟨y, rfl, hy⟩, hE2⟩
        obtain ⟨⟨r5, n5, no⟩, hq⟩ : ∃ q, r4.txt 200 = q := ⟨_, rfl⟩
        have HTn5 := Lib.hid hq
        have hln := r4.txt_len 200
        rw [hq] at hy hln ⊢
        dsimp only at hy hln ⊢
        have HLn5 := Lib.hid (Nat.le_trans hln HLn4.out)
        obtain ⟨a3, c3, rfl, hb3⟩ := hy
        have HBn5 := Lib.hid hb3
        clear hq hb3 hln
        replace HM := Lib.hid (HM.out.ext hE2)
        clear hE2
        have HEn5 := Lib.hid HM.out.extTo
        have fM := HM.out.fa
        go_wp2_with fail
        all_goals clear fM
        refine nxt HM fun w5 M => ?_
        clear HM; have HM := M; clear M
        try rw [show Value.string ⟨#[]⟩ = Value.string (bs []) from rfl] at HM
        go_meet
        case rel =>
          have hpt : Part.entry.take r s = (r5, { s with e := ⟨m, n3, n4, n5⟩ }) := by
            unfold Part.take
            dsimp only
            rw [HTm.out]; dsimp only; rw [HTn3.out]; dsimp only; rw [if_pos H4.out, HTn4.out]; dsimp only; rw [HTn5.out]
          exact ⟨r5, { s with e := ⟨m, n3, n4, n5⟩ }, _, _, Lib.hid (by have := HZ.out; unfold dF6 at this; rw [if_pos HD.out, hpt] at this; exact this), Lib.hid ⟨HS.out.2.1, by have := Part.entry.take_short r s HS.out.2.2; rw [hpt] at this; exact this⟩, HLn5, Lib.hid (HBn5.out.swap HA.out HEn5.out HM.out.extTo), Lib.hid (Mem.sub HM.out (by repeat first | exact Sub.nil | refine Sub.cons (by with_reducible repeat first | exact ph | apply pt) ?_))⟩
      · have H4 := Lib.hid h4
        have d4 : ((m : Int) == 4) = false := by simp; omega
        clear h4
        have fM := HM.out.fa
        go_wp2_with fail
        all_goals clear fM
        refine nxt HM fun w5 M => ?_
        clear HM; have HM := M; clear M
        try rw [show Value.string ⟨#[]⟩ = Value.string (bs []) from rfl] at HM
        go_meet
        case rel =>
          have hpt : Part.entry.take r s = (r3, { s with e := ⟨m, n3, 0, []⟩ }) := by
            unfold Part.take
            dsimp only
            rw [HTm.out]; dsimp only; rw [HTn3.out]; dsimp only; rw [if_neg H4.out, HS.out.1]; rfl
          exact ⟨r3, { s with e := ⟨m, n3, 0, []⟩ }, _, _, Lib.hid (by have := HZ.out; unfold dF6 at this; rw [if_pos HD.out, hpt] at this; exact this), Lib.hid ⟨HS.out.2.1, by have := Part.entry.take_short r s HS.out.2.2; rw [hpt] at this; exact this⟩, HLn3, Lib.hid (HBn3.out.swap HA.out HEn3.out HM.out.extTo), Lib.hid (Mem.sub HM.out (by repeat first | exact Sub.nil | refine Sub.cons (by with_reducible repeat first | exact ph | apply pt) ?_))⟩
    · have HD := Lib.hid hd
      rw [decide_eq_false hd]
      clear hd
      have fM := HM.out.fa
      go_wp2_with fail
      all_goals clear fM
      go_meet
      case rel => exact ⟨r, s, _, _, Lib.hid (by have := HZ.out; unfold dF6 at this; rw [if_neg HD.out] at this; exact this), Lib.hid HS.out.2, HLR, HB, Lib.hid (Mem.sub HM.out (by repeat first | exact Sub.nil | refine Sub.cons (by with_reducible repeat first | exact ph | apply pt) ?_))⟩
  clear HZ HS HLR HB HM
  obtain ⟨r, s, a2, c2, HZ, HS, HLR, HB, HM⟩ := hcut
  unfold Sd.cells at HM
  obtain ⟨wk, hwk⟩ : ∃ x, x = wc := ⟨_, rfl⟩
  subst hwk
  have hz : (r, s) = Z := HZ.out
  subst hz
  clear HZ
  have fM := HM.out.fa
  go_upto_region 26 with fail
  clear fM
  obtain ⟨n, hn⟩ : ∃ n, r.b.length = n := ⟨_, rfl⟩
  obtain ⟨e0, he0⟩ : ∃ x, r.e = x := ⟨_, rfl⟩
  rw [hn, he0] at HM
  have HN := Lib.hid hn
  clear hn HB HLR
  by_cases he : e0 = 0
  case neg =>
    have HQ := Lib.hid (show P = (Sd.of 0, 340) by rw [HPQ.out, if_neg (fun h => he (he0.symm.trans h.1))])
    have d1 : (e0 != 0) = true := by simpa using he
    clear he he0
    have fM := HM.out.fa
    have hE0 : Keeps NoB wk wk.drew := (Keeps.refl _ _).drew
    refine wp_region_plan [(0, 0), (0, 1), (3, 2), (0, 3), (0, 4), (0, 5), (0, 6), (3, 7), (0, 8), (0, 9), (0, 10), (0, 11), (3, 12), (2, 13), (0, 14), (0, 15), (0, 16), (1, 17), (0, 20), (1, 21), (2, 18), (1, 19), (0, 22), (0, 23)] [17, 19, 21] [13, 18] [] (ClsE wk) (by kernel_rfl) (by kernel_rfl) (plan3 [0, 1, 3, 7, 15, 31, 63, 127, 255, 511, 1023, 2047, 4095, 8191, 16383, 32767, 65535, 131071, 262143, 524287, 131071, 1179647, 4194303, 8388607] (by kernel_rfl) rfl (by kernel_rfl)) rfl rfl (ClsE.of hE0) (fun _ _ _ d _ h => by cases d <;> exact h) ?_; simp only [planL, nL]
    iterate 2 (refine pR (v := ?_) rfl (fun W => ?_) ?_; rotate_left; (go_simp <;> with_reducible rfl); simp only [nP])
    refine pX (v := ?_) rfl ?_ ?_; rotate_left; (go_simp <;> with_reducible rfl); simp only [nP]
    refine pR (v := ?_) rfl (fun W => ?_) ?_; rotate_left; (go_simp <;> with_reducible rfl); simp only [nP]
    refine pM _ rfl rfl ?_; simp only [nP, nE]
    iterate 2 ((first | (refine plan_skip rfl ?_; simp only [nP]) | (refine pR (v := ?_) rfl (fun W => ?_) ?_; rotate_left; (go_simp <;> with_reducible rfl); simp only [nP])))
    (first | (refine plan_skip rfl ?_; simp only [nP]) | (refine pX (v := ?_) rfl ?_ ?_; rotate_left; (go_simp <;> with_reducible rfl); simp only [nP]))
    iterate 2 ((first | (refine plan_skip rfl ?_; simp only [nP]) | (refine pR (v := ?_) rfl (fun W => ?_) ?_; rotate_left; (go_simp <;> with_reducible rfl); simp only [nP])))
    refine pR (v := ?_) rfl (fun W => ?_) ?_; rotate_left; (go_simp <;> with_reducible rfl); simp only [nP]
    refine pM _ rfl rfl ?_; simp only [nP, nE]
    (first | (refine plan_skip rfl ?_; simp only [nP]) | (refine pX (v := ?_) rfl ?_ ?_; rotate_left; (go_simp <;> with_reducible rfl); simp only [nP]))
    refine plan_skip rfl ?_; simp only [nP]
    (first | (refine plan_skip rfl ?_; simp only [nP]) | (refine pR (v := ?_) rfl (fun W => ?_) ?_; rotate_left; (go_simp <;> with_reducible rfl); simp only [nP]))
    refine pR (v := ?_) rfl (fun W => ?_) ?_; rotate_left; (go_simp <;> with_reducible rfl); simp only [nP]
    refine pM _ rfl rfl ?_; simp only [nP, nE]
    (first | (refine plan_skip rfl ?_; simp only [nP]) | (refine pL (v := ?_) rfl (fun W => ?_) ?_; rotate_left; (go_simp <;> with_reducible rfl); simp only [nP]))
    (first | (refine plan_skip rfl ?_; simp only [nP]) | (refine pM _ rfl rfl ?_; simp only [nP, nE]))
    (first | (refine plan_skip rfl ?_; simp only [nP]) | (refine pL (v := ?_) rfl (fun W => ?_) ?_; rotate_left; (go_simp <;> with_reducible rfl); simp only [nP]))
    refine plan_skip rfl ?_; simp only [nP]
    (first | (refine plan_skip rfl ?_; simp only [nP]) | (refine pL (v := ?_) rfl (fun W => ?_) ?_; rotate_left; (go_simp <;> with_reducible rfl); simp only [nP]))
    (first | (refine plan_skip rfl ?_; simp only [nP]) | (refine pR (v := ?_) rfl (fun W => ?_) ?_; rotate_left; (go_simp <;> with_reducible rfl); simp only [nP]))
    refine pR (v := ?_) rfl (fun W => ?_) ?_; rotate_left; (go_simp <;> with_reducible rfl); simp only [nP]
    refine plan_nil ?_; simp only [tailL, List.filterMap_nil]
    clear fM
    clear d1
    refine nxt HM fun w6 M => ?_
    clear HM; have HM := M; clear M
    have fM := HM.out.fa
    go_wp2_with fail
    all_goals clear fM
    refine nxt HM fun w9 M => ?_
    clear HM; have HM := M; clear M
    obtain ⟨Ahb, hb⟩ := HM.out.get (r := cellsR k0 27 [.int .i64 0, .int .i64 0, .int .i64 0, .int .i64 0, .bool false, .string ⟨#[]⟩, .string ⟨#[]⟩, .int .i64 0, .int .i64 0, .int .i64 0, .string ⟨#[]⟩]) (by with_reducible repeat first | exact ph | apply pt)
    refine bodyPost_ret (results_ct Tryz.results17 _ rfl (run_loadVar_row w9 _ _ 27 _ (0, 0) _ hb.2 Tryz.underlying27 rfl (by kernel_rfl))) rfl ?_
    exact ⟨by rw [HQ.out]; rfl, HM.out.extTo⟩
  subst he
  have HE0' := Lib.hid he0
  clear he0
  by_cases hb : r.b = []
  case neg =>
    have HQ := Lib.hid (show P = (Sd.of 0, 340) by rw [HPQ.out, if_neg (fun h => hb h.2.1)])
    have d2 : decide ((0 : Int) < (n : Int)) = true := decide_eq_true (by have := List.length_pos_iff.2 hb; have := HN.out; omega)
    have d3 : decide (0 < n) = true := decide_eq_true (by have := List.length_pos_iff.2 hb; have := HN.out; omega)
    clear hb
    have fM := HM.out.fa
    have hE0 : Keeps NoB wk wk.drew := (Keeps.refl _ _).drew
    refine wp_region_plan [(0, 0), (0, 1), (3, 2), (0, 3), (0, 4), (0, 5), (0, 6), (3, 7), (0, 8), (0, 9), (0, 10), (0, 11), (3, 12), (2, 13), (0, 14), (0, 15), (0, 16), (1, 17), (0, 20), (1, 21), (2, 18), (1, 19), (0, 22), (0, 23)] [17, 19, 21] [13, 18] [] (ClsE wk) (by kernel_rfl) (by kernel_rfl) (plan3 [0, 1, 3, 7, 15, 31, 63, 127, 255, 511, 1023, 2047, 4095, 8191, 16383, 32767, 65535, 131071, 262143, 524287, 131071, 1179647, 4194303, 8388607] (by kernel_rfl) rfl (by kernel_rfl)) rfl rfl (ClsE.of hE0) (fun _ _ _ d _ h => by cases d <;> exact h) ?_; simp only [planL, nL]
    iterate 2 (refine pR (v := ?_) rfl (fun W => ?_) ?_; rotate_left; (go_simp <;> with_reducible rfl); simp only [nP])
    refine pX (v := ?_) rfl ?_ ?_; rotate_left; (go_simp <;> with_reducible rfl); simp only [nP]
    refine pR (v := ?_) rfl (fun W => ?_) ?_; rotate_left; (go_simp <;> with_reducible rfl); simp only [nP]
    refine pM _ rfl rfl ?_; simp only [nP, nE]
    iterate 2 ((first | (refine plan_skip rfl ?_; simp only [nP]) | (refine pR (v := ?_) rfl (fun W => ?_) ?_; rotate_left; (go_simp <;> with_reducible rfl); simp only [nP])))
    (first | (refine plan_skip rfl ?_; simp only [nP]) | (refine pX (v := ?_) rfl ?_ ?_; rotate_left; (go_simp <;> with_reducible rfl); simp only [nP]))
    iterate 2 ((first | (refine plan_skip rfl ?_; simp only [nP]) | (refine pR (v := ?_) rfl (fun W => ?_) ?_; rotate_left; (go_simp <;> with_reducible rfl); simp only [nP])))
    refine pR (v := ?_) rfl (fun W => ?_) ?_; rotate_left; (go_simp <;> with_reducible rfl); simp only [nP]
    refine pM _ rfl rfl ?_; simp only [nP, nE]
    (first | (refine plan_skip rfl ?_; simp only [nP]) | (refine pX (v := ?_) rfl ?_ ?_; rotate_left; (go_simp <;> with_reducible rfl); simp only [nP]))
    refine plan_skip rfl ?_; simp only [nP]
    (first | (refine plan_skip rfl ?_; simp only [nP]) | (refine pR (v := ?_) rfl (fun W => ?_) ?_; rotate_left; (go_simp <;> with_reducible rfl); simp only [nP]))
    refine pR (v := ?_) rfl (fun W => ?_) ?_; rotate_left; (go_simp <;> with_reducible rfl); simp only [nP]
    refine pM _ rfl rfl ?_; simp only [nP, nE]
    (first | (refine plan_skip rfl ?_; simp only [nP]) | (refine pL (v := ?_) rfl (fun W => ?_) ?_; rotate_left; (go_simp <;> with_reducible rfl); simp only [nP]))
    (first | (refine plan_skip rfl ?_; simp only [nP]) | (refine pM _ rfl rfl ?_; simp only [nP, nE]))
    (first | (refine plan_skip rfl ?_; simp only [nP]) | (refine pL (v := ?_) rfl (fun W => ?_) ?_; rotate_left; (go_simp <;> with_reducible rfl); simp only [nP]))
    refine plan_skip rfl ?_; simp only [nP]
    (first | (refine plan_skip rfl ?_; simp only [nP]) | (refine pL (v := ?_) rfl (fun W => ?_) ?_; rotate_left; (go_simp <;> with_reducible rfl); simp only [nP]))
    (first | (refine plan_skip rfl ?_; simp only [nP]) | (refine pR (v := ?_) rfl (fun W => ?_) ?_; rotate_left; (go_simp <;> with_reducible rfl); simp only [nP]))
    refine pR (v := ?_) rfl (fun W => ?_) ?_; rotate_left; (go_simp <;> with_reducible rfl); simp only [nP]
    refine plan_nil ?_; simp only [tailL, List.filterMap_nil]
    clear fM
    clear d2 d3
    refine nxt HM fun w6 M => ?_
    clear HM; have HM := M; clear M
    have fM := HM.out.fa
    go_wp2_with fail
    all_goals clear fM
    refine nxt HM fun w9 M => ?_
    clear HM; have HM := M; clear M
    obtain ⟨Ahb, hb⟩ := HM.out.get (r := cellsR k0 27 [.int .i64 0, .int .i64 0, .int .i64 0, .int .i64 0, .bool false, .string ⟨#[]⟩, .string ⟨#[]⟩, .int .i64 0, .int .i64 0, .int .i64 0, .string ⟨#[]⟩]) (by with_reducible repeat first | exact ph | apply pt)
    refine bodyPost_ret (results_ct Tryz.results17 _ rfl (run_loadVar_row w9 _ _ 27 _ (0, 0) _ hb.2 Tryz.underlying27 rfl (by kernel_rfl))) rfl ?_
    exact ⟨by rw [HQ.out]; rfl, HM.out.extTo⟩
  have HB0 := Lib.hid hb
  obtain rfl : n = 0 := by rw [← HN.out, hb]; rfl
  clear hb
  cases hsb : sdB s
  case false =>
    have HQ := Lib.hid (show P = (Sd.of 0, 340) by rw [HPQ.out, if_neg (fun h => by rw [hsb] at h; exact absurd h.2.2 (by decide))])
    have HSB := Lib.hid hsb
    clear hsb
    have fM := HM.out.fa
    have hE0 : Keeps NoB wk wk.drew := (Keeps.refl _ _).drew
    refine wp_region_plan [(0, 0), (0, 1), (3, 2), (0, 3), (0, 4), (0, 5), (0, 6), (3, 7), (0, 8), (0, 9), (0, 10), (0, 11), (3, 12), (2, 13), (0, 14), (0, 15), (0, 16), (1, 17), (0, 20), (1, 21), (2, 18), (1, 19), (0, 22), (0, 23)] [17, 19, 21] [13, 18] [] (ClsE wk) (by kernel_rfl) (by kernel_rfl) (plan3 [0, 1, 3, 7, 15, 31, 63, 127, 255, 511, 1023, 2047, 4095, 8191, 16383, 32767, 65535, 131071, 262143, 524287, 131071, 1179647, 4194303, 8388607] (by kernel_rfl) rfl (by kernel_rfl)) rfl rfl (ClsE.of hE0) (fun _ _ _ d _ h => by cases d <;> exact h) ?_; simp only [planL, nL]
    iterate 2 (refine pR (v := ?_) rfl (fun W => ?_) ?_; rotate_left; (go_simp <;> with_reducible rfl); simp only [nP])
    refine pX (v := ?_) rfl ?_ ?_; rotate_left; (go_simp <;> with_reducible rfl); simp only [nP]
    refine pR (v := ?_) rfl (fun W => ?_) ?_; rotate_left; (go_simp <;> with_reducible rfl); simp only [nP]
    refine pM _ rfl rfl ?_; simp only [nP, nE]
    iterate 2 ((first | (refine plan_skip rfl ?_; simp only [nP]) | (refine pR (v := ?_) rfl (fun W => ?_) ?_; rotate_left; (go_simp <;> with_reducible rfl); simp only [nP])))
    (first | (refine plan_skip rfl ?_; simp only [nP]) | (refine pX (v := ?_) rfl ?_ ?_; rotate_left; (go_simp <;> with_reducible rfl); simp only [nP]))
    iterate 2 ((first | (refine plan_skip rfl ?_; simp only [nP]) | (refine pR (v := ?_) rfl (fun W => ?_) ?_; rotate_left; (go_simp <;> with_reducible rfl); simp only [nP])))
    refine pR (v := ?_) rfl (fun W => ?_) ?_; rotate_left; (go_simp <;> with_reducible rfl); simp only [nP]
    refine pM _ rfl rfl ?_; simp only [nP, nE]
    (first | (refine plan_skip rfl ?_; simp only [nP]) | (refine pX (v := ?_) rfl ?_ ?_; rotate_left; (go_simp <;> with_reducible rfl); simp only [nP]))
    (first | (refine plan_skip rfl ?_; simp only [nP]) | (refine plan_does rfl (fun K hK => ?_)))
    go_wp2_with fail
    refine (docRight_any W _ hT (HE.out.ext ((HM.out.extTo).ext hE0)) s (by have := HS.out.2; unfold Short at this; omega)).mono ?_
    rintro e w6 ⟨rfl, hU⟩
    rw [HSB.out]
    have hE2 := hE0.ext hU
    replace HM := Lib.hid (HM.out.ext hE2)
    clear hU
    refine hK _ _ ⟨ClsE.of (by assumption), ?_⟩; clear hK K; try simp only [nP]
    (first | (refine plan_skip rfl ?_; simp only [nP]) | (refine pR (v := ?_) rfl (fun W => ?_) ?_; rotate_left; (go_simp <;> with_reducible rfl); simp only [nP]))
    refine pR (v := ?_) rfl (fun W => ?_) ?_; rotate_left; (go_simp <;> with_reducible rfl); simp only [nP]
    refine pM _ rfl rfl ?_; simp only [nP, nE]
    (first | (refine plan_skip rfl ?_; simp only [nP]) | (refine pL (v := ?_) rfl (fun W => ?_) ?_; rotate_left; (go_simp <;> with_reducible rfl); simp only [nP]))
    (first | (refine plan_skip rfl ?_; simp only [nP]) | (refine pM _ rfl rfl ?_; simp only [nP, nE]))
    (first | (refine plan_skip rfl ?_; simp only [nP]) | (refine pL (v := ?_) rfl (fun W => ?_) ?_; rotate_left; (go_simp <;> with_reducible rfl); simp only [nP]))
    refine plan_skip rfl ?_; simp only [nP]
    (first | (refine plan_skip rfl ?_; simp only [nP]) | (refine pL (v := ?_) rfl (fun W => ?_) ?_; rotate_left; (go_simp <;> with_reducible rfl); simp only [nP]))
    (first | (refine plan_skip rfl ?_; simp only [nP]) | (refine pR (v := ?_) rfl (fun W => ?_) ?_; rotate_left; (go_simp <;> with_reducible rfl); simp only [nP]))
    refine pR (v := ?_) rfl (fun W => ?_) ?_; rotate_left; (go_simp <;> with_reducible rfl); simp only [nP]
    refine plan_nil ?_; simp only [tailL, List.filterMap_nil]
    clear fM
    have fM := HM.out.fa
    go_wp2_with fail
    all_goals clear fM
    refine nxt HM fun w9 M => ?_
    clear HM; have HM := M; clear M
    obtain ⟨Ahb, hb⟩ := HM.out.get (r := cellsR k0 27 [.int .i64 0, .int .i64 0, .int .i64 0, .int .i64 0, .bool false, .string ⟨#[]⟩, .string ⟨#[]⟩, .int .i64 0, .int .i64 0, .int .i64 0, .string ⟨#[]⟩]) (by with_reducible repeat first | exact ph | apply pt)
    refine bodyPost_ret (results_ct Tryz.results17 _ rfl (run_loadVar_row w9 _ _ 27 _ (0, 0) _ hb.2 Tryz.underlying27 rfl (by kernel_rfl))) rfl ?_
    exact ⟨by rw [HQ.out]; rfl, HM.out.extTo⟩
  have HQ := Lib.hid (show P = (s, 0) by rw [HPQ.out, if_pos ⟨HE0'.out, HB0.out, hsb⟩])
  have HBL := Lib.hid (show bodyL s = l by
    have := parse_back l (by rw [HPL.out, HQ.out])
    rw [HPL.out, HQ.out] at this
    exact this.1)
  have HSB := Lib.hid hsb
  clear hsb
  have hcv0 : ∀ y : ExtW wk, (convert 30 9 (.slice a l.length c)).run Tryz.prog y.w = .ok (.string (bs l)) y.w := fun y => ((HV.out.ext HM.out.extTo).ext y.h).str
  have fM := HM.out.fa
  have hE0 : Keeps NoB wk wk.drew := (Keeps.refl _ _).drew
  refine wp_region_plan [(0, 0), (0, 1), (3, 2), (0, 3), (0, 4), (0, 5), (0, 6), (3, 7), (0, 8), (0, 9), (0, 10), (0, 11), (3, 12), (2, 13), (0, 14), (0, 15), (0, 16), (1, 17), (0, 20), (1, 21), (2, 18), (2, 19), (0, 22), (0, 23)] [17, 21] [13, 18, 19] [] (ClsE wk) (by kernel_rfl) (by kernel_rfl) (plan3 [0, 1, 3, 7, 15, 31, 63, 127, 255, 511, 1023, 2047, 4095, 8191, 16383, 32767, 65535, 131071, 262143, 524287, 131071, 1179647, 4194303, 8388607] (by kernel_rfl) rfl (by kernel_rfl)) rfl rfl (ClsE.of hE0) (fun _ _ _ d _ h => by cases d <;> exact h) ?_; simp only [planL, nL]
  iterate 2 (refine pR (v := ?_) rfl (fun W => ?_) ?_; rotate_left; (go_simp <;> with_reducible rfl); simp only [nP])
  refine pX (v := ?_) rfl ?_ ?_; rotate_left; (go_simp <;> with_reducible rfl); simp only [nP]
  refine pR (v := ?_) rfl (fun W => ?_) ?_; rotate_left; (go_simp <;> with_reducible rfl); simp only [nP]
  refine pM _ rfl rfl ?_; simp only [nP, nE]
  iterate 2 ((first | (refine plan_skip rfl ?_; simp only [nP]) | (refine pR (v := ?_) rfl (fun W => ?_) ?_; rotate_left; (go_simp <;> with_reducible rfl); simp only [nP])))
  (first | (refine plan_skip rfl ?_; simp only [nP]) | (refine pX (v := ?_) rfl ?_ ?_; rotate_left; (go_simp <;> with_reducible rfl); simp only [nP]))
  iterate 2 ((first | (refine plan_skip rfl ?_; simp only [nP]) | (refine pR (v := ?_) rfl (fun W => ?_) ?_; rotate_left; (go_simp <;> with_reducible rfl); simp only [nP])))
  refine pR (v := ?_) rfl (fun W => ?_) ?_; rotate_left; (go_simp <;> with_reducible rfl); simp only [nP]
  refine pM _ rfl rfl ?_; simp only [nP, nE]
  (first | (refine plan_skip rfl ?_; simp only [nP]) | (refine pX (v := ?_) rfl ?_ ?_; rotate_left; (go_simp <;> with_reducible rfl); simp only [nP]))
  (first | (refine plan_skip rfl ?_; simp only [nP]) | (refine plan_does rfl (fun K hK => ?_)))
  go_wp2_with fail
  refine (docRight_any W _ hT (HE.out.ext ((HM.out.extTo).ext hE0)) s (by have := HS.out.2; unfold Short at this; omega)).mono ?_
  rintro e w6 ⟨rfl, hU⟩
  rw [HSB.out]
  have hE6 := hE0.ext hU
  replace HM := Lib.hid (HM.out.ext hE6)
  clear hU
  refine hK _ _ ⟨ClsE.of (by assumption), ?_⟩; clear hK K; try simp only [nP]
  (first | (refine plan_skip rfl ?_; simp only [nP]) | (refine pR (v := ?_) rfl (fun W => ?_) ?_; rotate_left; (go_simp <;> with_reducible rfl); simp only [nP]))
  refine pR (v := ?_) rfl (fun W => ?_) ?_; rotate_left; (go_simp <;> with_reducible rfl); simp only [nP]
  refine pM _ rfl rfl ?_; simp only [nP, nE]
  (first | (refine plan_skip rfl ?_; simp only [nP]) | (refine pL (v := ?_) rfl (fun W => ?_) ?_; rotate_left; (go_simp <;> with_reducible rfl); simp only [nP]))
  (first | (refine plan_skip rfl ?_; simp only [nP]) | (refine pM _ rfl rfl ?_; simp only [nP, nE]))
  (first | (refine plan_skip rfl ?_; simp only [nP]) | (refine pL (v := ?_) rfl (fun W => ?_) ?_; rotate_left; (go_simp <;> with_reducible rfl); simp only [nP]))
  (first | (refine plan_skip rfl ?_; simp only [nP]) | (refine plan_does rfl (fun K hK => ?_)))
  go_wp2_with fail
  refine (docBody_any _ s HSB.out (by have := HS.out.2; unfold Short at this; omega)).mono ?_
  rintro e w7 ⟨v7, rfl, hU⟩
  obtain ⟨hb7, hE1⟩ := hU.byt
  have hE7 := hE6.ext hE1
  rw [HBL.out] at hb7
  have hcv2 := hb7.str
  replace HM := Lib.hid (HM.out.ext hE1)
  clear hU hb7 hE1
  refine hK _ _ ⟨ClsE.of (by assumption), ?_⟩; clear hK K; try simp only [nP]
  (first | (refine plan_skip rfl ?_; simp only [nP]) | (refine plan_does rfl (fun K hK => ?_)))
  go_wp2_with fail
  refine ⟨ClsE.of (by repeat (first | assumption | exact Keeps.refl _ _ | refine Keeps.alloc ?_ _ | refine Keeps.setOne ?_ _ _ | refine Keeps.setCell ?_ _ _ (.inl (by first | rfl | exact .inl rfl | exact .inr rfl | omega)) | refine Keeps.drew ?_)), ?_⟩; try simp only [nP]
  (first | (refine plan_skip rfl ?_; simp only [nP]) | (refine pR (v := ?_) rfl (fun W => ?_) ?_; rotate_left; (go_simp <;> with_reducible rfl); simp only [nP]))
  refine pR (v := ?_) rfl (fun W => ?_) ?_; rotate_left; (go_simp <;> with_reducible rfl); simp only [nP]
  refine plan_nil ?_; simp only [tailL, List.filterMap_nil]
  clear fM
  clear hcv0 hcv2
  have fM := HM.out.fa
  go_wp2_with fail
  all_goals clear fM
  refine nxt HM fun w9 M => ?_
  clear HM; have HM := M; clear M
  obtain ⟨Ahb, hb⟩ := HM.out.get (r := cellsR k0 27 s.cells) (by with_reducible repeat first | exact ph | apply pt)
  refine bodyPost_ret (results_ct Tryz.results17 _ rfl (run_loadVar_row w9 _ _ 27 _ (0, 0) _ hb.2 Tryz.underlying27 rfl (by kernel_rfl))) rfl ?_
  exact ⟨by rw [HQ.out]; rfl, HM.out.extTo⟩
end Go.Proofs.YtcfgnbbiljohjaaGreatDoor
end
section
/- FramesParses: the walk. Conditions: the tables read as they are laid; the bytes lie as 'Bytes' says. -/
set_option linter.unusedVariables false
set_option linter.unusedSimpArgs false
set_option maxHeartbeats 4000000
set_option maxRecDepth 10000
namespace Go.Proofs.YtcfgnbbiljohjaaGreatDoor
open Go.RowKit
theorem sliced_0 (g o j c : Nat) (hc : 0 < c) : sliced (some ⟨g, o, none⟩) 0 j c 1 = .slice (some ⟨g, o, none⟩) j c := by
  unfold sliced
  rw [if_neg (by omega), Option.map_some, Addr.add_lit, Nat.zero_mul, Nat.add_zero, Nat.sub_zero, Nat.sub_zero]
theorem Bytes.front {w : World} {A : Nat → Prop} {ad : Addr} {n c : Nat} {l m : List UInt8} (h : Bytes w A (.slice (some ad) n c) (l ++ m)) : Bytes w A (.slice (some ad) l.length c) l := by
  rcases h with ⟨a', h1, h2⟩ | ⟨b, o, c', h1, h2, h3, h4⟩
  · obtain ⟨rfl, rfl⟩ := List.append_eq_nil_iff.1 h2
    cases h1
    exact .inl ⟨_, rfl, rfl⟩
  · cases h1
    rw [List.length_append] at h2
    refine .inr ⟨b, o, c, rfl, by omega, h3, fun i hi => ?_⟩
    have := h4 i (by rw [List.length_append]; omega)
    rwa [List.getElem_append_left hi] at this
theorem Bytes.last {w : World} {A : Nat → Prop} {v : Value} {l : List UInt8} {x : UInt8} (h : Bytes w A v (l ++ [x])) : ∃ g o c, v = .slice (some ⟨g, o, none⟩) (l.length + 1) c ∧ l.length + 1 ≤ c ∧ w.cell? ⟨g, o + l.length, none⟩ = some (byV x) := by
  rcases h with ⟨a', h1, h2⟩ | ⟨b, o, c', h1, h2, h3, h4⟩
  · simp at h2
  · rw [List.length_append, List.length_singleton] at h1 h2
    refine ⟨b, o, c', h1, h2, ?_⟩
    have := h4 l.length (by simp)
    rw [Nat.mul_one] at this
    unfold ByteAt at this
    rw [this]
    simp
theorem parses_walk (W : World) (v : Value) (l : List UInt8) (h : Bytes W (Old W) v l) (hT : Tabs W) : Calls Tryz.prog 4 #[v] W fun e w' => e = .returned (.bool true) ∧ Ext W w' := by
  obtain ⟨a, c, rfl⟩ := h.len
  have HM := Lib.hid (Mem.start0 W)
  have HV := Lib.hid h
  clear h
  by_cases hl : l.length ≤ 600
  case neg =>
    have h1 : (600 : Int) < l.length := by omega
    clear hl
    go_enter Tryz.func4, Tryz.ntmps4
    have fM := HM.out.fa
    go_wp2_with fail
    all_goals clear fM
    refine (works_any W _ hT HM.out.extTo).mono ?_
    rintro e w2 ⟨rfl, hE2⟩
    replace HM := Lib.hid (HM.out.ext hE2)
    clear hE2
    have fM := HM.out.fa
    go_wp2_with fail
    all_goals clear fM
    go_ret
    exact ⟨rfl, HM.out.extTo⟩
  have h1 : ¬ (600 : Int) < l.length := by omega
  have HL := Lib.hid hl
  clear hl
  go_enter Tryz.func4, Tryz.ntmps4
  go_wp2_with (at_builtin; refine standing ?_)
  refine nxt HM fun w1 M => ?_
  clear HM; have HM := M; clear M
  replace HM := Lib.hid HM.out.bytEmpty
  obtain ⟨v9, w9, hr, hm⟩ := Mem.bytAdd 30 HM.out _ l (HV.out.ext HM.out.extTo) (by have := HL.out; simp; omega)
  rw [List.nil_append] at hm
  obtain ⟨a9, c9, rfl⟩ := hm.fact (fun A h => bytR.len h)
  replace HM := Lib.hid hm
  refine ⟨?_⟩
  refine wpList_append_ran rfl _ _ hr rfl rfl rfl ?_
  clear hr hm h1
  go_wp2_with (at_builtin; refine standing ?_)
  refine nxt HM fun w2 M => ?_
  clear HM; have HM := M; clear M
  obtain ⟨Ahb, hb⟩ := HM.out.get (r := cellsR w9.heap.size 5 [.int .u8 77]) (by with_reducible repeat first | exact ph | apply pt)
  replace HM := Lib.hid (HM.out.pick (r := bytR (.slice a9 l.length c9) l) (by with_reducible repeat first | exact ph | apply pt))
  obtain ⟨v8, w8, hr, hm⟩ := Mem.bytAdd 30 HM.out _ [77] (box_bytes (l := [77]) hb.2 1 (by decide)) (by have := HL.out; simp; omega)
  replace HM := Lib.hid hm
  refine ⟨?_⟩
  refine wpList_append_ran rfl _ _ hr rfl rfl rfl ?_
  clear hr hm hb Ahb
  obtain ⟨A8, hby, hlt⟩ := HM.out.byt
  obtain ⟨g, o, c8, rfl, hc8, -⟩ := hby.last
  clear hby hlt
  have hsl : ∀ W, (Instr.sliceAt 30 (.slice (some ⟨g, o, none⟩) (l.length + 1) c8) none (some (.int .i64 (l.length : Int))) none).run Tryz.prog W = .ok (.slice (some ⟨g, o, none⟩) l.length c8) W := fun W => by
    rw [slice_h W _ _ _ _ (by omega), sliced_0 _ _ _ _ (by omega)]
  have HC8 := Lib.hid hc8
  clear hc8
  have fM := HM.out.fa
  go_wp2_with fail
  all_goals clear fM
  clear hsl
  obtain ⟨A8, hby, hlt⟩ := HM.out.byt
  refine (parse_any W w8 hT HM.out.extTo _ l hby.front (by have := HL.out; omega)).mono ?_
  rintro e w3 ⟨rfl, hE2⟩
  obtain ⟨⟨s, no⟩, hp⟩ : ∃ p, parseL l = p := ⟨_, rfl⟩
  have HP := Lib.hid hp
  rw [hp]
  dsimp only
  replace HM := Lib.hid (HM.out.ext hE2)
  clear hE2 hp hby hlt
  clear A8
  unfold Sd.v Sd.cells
  have fM := HM.out.fa
  go_wp2_with fail
  all_goals clear fM
  refine nxt HM fun w4 M => ?_
  clear HM; have HM := M; clear M
  refine (docParse_any W w4 hT HM.out.extTo _ l (HV.out.ext HM.out.extTo) (fun k hk => Nat.lt_of_lt_of_le hk HM.out.extTo.size) (by have := HL.out; omega)).mono ?_
  rintro e w5 ⟨rfl, hE2⟩
  rw [HP.out]
  dsimp only
  replace HM := Lib.hid (HM.out.ext hE2)
  clear hE2
  unfold Sd.v Sd.cells
  have fM := HM.out.fa
  go_upto_region 6 with fail
  clear fM
  refine nxt HM fun w6 M => ?_
  clear HM; have HM := M; clear M
  obtain ⟨A8, hby, hlt⟩ := (HM.out.pick (r := bytR (.slice (some ⟨g, o, none⟩) (l.length + 1) c8) (l ++ [77])) (by with_reducible repeat first | exact ph | apply pt)).byt
  have hcv1 := hby.front.str
  have hcv2 := (HV.out.ext HM.out.extTo).str
  obtain ⟨g', o', c', hv', -, hcell⟩ := hby.last
  cases hv'
  obtain ⟨ed, hed⟩ : ∃ ed, l.length + 1 = ed := ⟨_, rfl⟩
  have hw : wrap64 ((l.length : Int) + 1) = (ed : Int) := by have := HL.out; rw [← hed]; exact IntWalk.wrap64_in _ (by omega)
  have hsl : ∀ W, (Instr.sliceAt 30 (.slice (some ⟨g, o, none⟩) l.length c8) none (some (.int .i64 (ed : Int))) none).run Tryz.prog W = .ok (.slice (some ⟨g, o, none⟩) ed c8) W := fun W => by
    have := HC8.out
    rw [slice_h W _ _ _ _ (by omega), sliced_0 _ _ _ _ (by omega)]
  have hlt2 : (l.length : Int) < (ed : Int) := by omega
  have heq := fun W => eq_sd s s W
  unfold Sd.v Sd.cells at heq
  rw [decide_eq_true rfl] at heq
  clear hby hlt hed
  replace hcell : w6.cell? ⟨g, o + l.length, none⟩ = some (.int .u8 77) := hcell
  have fM := HM.out.fa
  go_wp2_with fail
  all_goals clear fM
  clear heq hsl hcell hcv1 hcv2 hw hlt2
  refine (num_any _ _).mono ?_
  rintro r wq ⟨rfl, hwq⟩
  rw [hwq]
  clear hwq wq
  have fM := HM.out.fa
  go_wp2_with fail
  all_goals clear fM
  refine (works_any W w6 hT HM.out.extTo).mono ?_
  rintro e w7 ⟨rfl, hE3⟩
  replace HM := Lib.hid (HM.out.ext hE3)
  clear hE3
  have fM := HM.out.fa
  go_wp2_with fail
  all_goals clear fM
  go_ret
  exact ⟨rfl, HM.out.extTo⟩
end Go.Proofs.YtcfgnbbiljohjaaGreatDoor
end
section
/- Bytes as an argument, opened. No condition. -/
set_option linter.unusedVariables false
set_option linter.unusedSimpArgs false
set_option maxRecDepth 100000
namespace Go.Proofs.YtcfgnbbiljohjaaGreatDoor
open Go.RowKit
theorem cellsU8' : Tryz.prog.cellsOf 5 = 1 := by kernel_rfl
section
variable {H : Type} {enc : TypeId × Value → H} {w : World}
theorem open_bytes {v : Value} {d : DataW H} {p : List MemPlace} {b : Nat} (hv : Value.okWide Tryz.prog w .any b 30 v) (h : DataW.Trod enc Tryz.prog w 0 (fun _ => true) true 30 v d p) :
    ∃ l : List UInt8, Bytes w (Old w) v l := by
  obtain ⟨fuel, hf⟩ := h
  obtain ⟨l, x, h1, h2, -⟩ := rd_bytes Tryz.underlying30 cellsU8' Tryz.underlying5 fuel _ _ hf
  rw [ok_slice Tryz.underlying30 hv] at h1
  cases h1
  exact ⟨l, h2⟩
end
end Go.Proofs.YtcfgnbbiljohjaaGreatDoor
end
section
/- FramesBent: the walk. Conditions: the tables read as they are laid; what is said fits the machine. -/
set_option linter.unusedVariables false
set_option linter.unusedSimpArgs false
set_option maxHeartbeats 4000000
set_option maxRecDepth 10000
namespace Go.Proofs.YtcfgnbbiljohjaaGreatDoor
open Go.RowKit
theorem zeroCells_bs (n : Nat) : Builtin.zeroCells #[Value.int .u8 0] n = (byteCells (bs (List.replicate n 0))).toArray := by
  rw [byteCells_bs]
  unfold Builtin.zeroCells
  apply Array.ext'
  apply List.ext_getElem
  · simp
  · intro i h1 h2
    have : i < n := by simpa using h1
    simp [Nat.mod_one, byV]
theorem append_int (w : World) (ty : TypeId) (base : Option Addr) (sLen sCap n : Nat) (h0 : 0 < n) (hn : sLen + n ≤ 70368744177664) :
    (Builtin.append_ #[30, 3] ty #[.slice base sLen sCap, .int .i64 (n : Int)]).run Tryz.prog w = (Builtin.append_ #[30, 9] ty #[.slice base sLen sCap, .string (bs (List.replicate n 0))]).run Tryz.prog w := by
  obtain ⟨i0, hi, hz0, hz1, hz2⟩ := info_parts infoU8
  have hw : IntKind.i64.wrap (n : Int) = n := IntWalk.i64_in _ (by omega)
  have n1 : ¬ ((n : Int) < 0) := by omega
  have n2 : ¬ (281474976710656 < (n : Int)) := by omega
  have n3 : ¬ (9223372036854775807 < (sLen : Int) + (n : Int)) := by omega
  have hsz : (bs (List.replicate n 0)).size = n := by rw [bs_size, List.length_replicate]
  have hnz : n ≠ 0 := by omega
  have hfc : ∀ w' : World, (Builtin.firstCells 1 n (.string (bs (List.replicate n 0)))).run Tryz.prog w' = .ok (byteCells (bs (List.replicate n 0))).toArray w' := fun w' => by
    have := firstCells_string (P := Tryz.prog) (bs (List.replicate n 0)) w'
    rwa [hsz] at this
  have hlen : ∀ w' : World, (Builtin.lenOf (.string (bs (List.replicate n 0)))).run Tryz.prog w' = .ok n w' := fun w' => by
    show Result.ok (bs (List.replicate n 0)).size w' = _
    rw [hsz]
  have hz3 : (Value.int IntKind.u8 0).cells = #[Value.int IntKind.u8 0] := rfl
  by_cases hr : sLen + n ≤ sCap
  · simp [Builtin.append_, run_underlying Tryz.underlying30, run_underlying Tryz.underlying3, run_underlying Tryz.underlying9, sizeOf, typeInfo, zeroValue, hi, hz0, hz1, hz2, hw, asInt, asIntOf, n1, n2, n3, hnz, hfc, hlen, hr, hz3, zeroCells_bs]
  · have hcap : ¬ (281474976710656 < Builtin.nextslicecap (sLen + n) sCap) := by
      have := nextslicecap_le (need := sLen + n) (old := sCap) (by omega)
      omega
    simp [Builtin.append_, run_underlying Tryz.underlying30, run_underlying Tryz.underlying3, run_underlying Tryz.underlying9, sizeOf, typeInfo, zeroValue, hi, hz0, hz1, hz2, hw, asInt, asIntOf, n1, n2, n3, hnz, hfc, hlen, hr, hz3, zeroCells_bs, hcap, Question.forced]
section
variable {F : Nat → Prop} {w0 w : World} {L : List Res} {l : List UInt8}
theorem Mem.bytZeros (ty : TypeId) {base : Option Addr} {k c : Nat} (h : Mem F w0 w (bytR (.slice base k c) l :: L)) (n : Nat) (h0 : 0 < n) (hk : k = l.length) (hl : l.length + n ≤ 70368744177664) :
    ∃ v' w', (Builtin.append_ #[30, 3] ty #[.slice base k c, .int .i64 (n : Int)]).run Tryz.prog w = .ok v' w' ∧ Mem F w0 w' (bytR v' (l ++ List.replicate n 0) :: L) := by
  subst hk
  rw [append_int w ty base l.length c n h0 hl]
  exact h.bytAddS ty (List.replicate n 0) (by simpa using hl)
theorem Mem.bytForm {a : Option Addr} {n c : Nat} (h : Mem F w0 w (bytR (.slice a n c) l :: L)) (k : Nat) (hk : k < l.length) :
    ∃ g o, a = some ⟨g, o, none⟩ ∧ n = l.length ∧ l.length ≤ c ∧ (∃ u, w.cell? ⟨g, o + k, none⟩ = some u) ∧ w.frozen? ⟨g, o + k, none⟩ = false := by
  refine h.fact fun A hA => ?_
  obtain ⟨h1, h2⟩ := hA
  obtain ⟨h3, h4 | ⟨g, o, cap, h5, h6, h7, h8, h9, h10, h11⟩⟩ := h2
  · omega
  · cases h5
    have := h10 k (by omega)
    exact ⟨g, o, rfl, rfl, h7, Option.isSome_iff_exists.1 this.1, this.2⟩
theorem Mem.bytSet {g o c : Nat} (h : Mem F w0 w (bytR (.slice (some ⟨g, o, none⟩) l.length c) l :: L)) (k : Nat) (hk : k < l.length) (x : UInt8) :
    Mem F w0 (w.setCell ⟨g, o + k, none⟩ (byV x)) (bytR (.slice (some ⟨g, o, none⟩) l.length c) (l.set k x) :: L) := by
  obtain ⟨A, hA, hS⟩ := h.step
  obtain ⟨h1, h2⟩ := hA
  refine hS _ _ ⟨A, ⟨h1, ?_⟩, (Keeps.refl _ _).setCell _ _ (.inl ((h1 g).2 rfl)), fun k hk => .inl hk⟩
  rw [List.length_set]
  exact h2.bump k hk x
end
theorem bent_walk (W : World) (s : Sd) (hs : OkS s) (hk : I64 s.kind) (i : Int) (c : UInt8) (more : Int) (hm : I64 more) (hT : Tabs W) :
    Calls Tryz.prog 5 #[s.v, .int .i64 i, byV c, .int .i64 more] W fun e w' => e = .returned (.bool true) ∧ Ext W w' := by
  have HM := Lib.hid (Mem.start0 W)
  have HS := Lib.hid hs
  have HK := Lib.hid hk
  have HMO := Lib.hid hm
  have HV := Lib.hid (show s.v = .agg s.cells.toArray from rfl)
  have HBV := Lib.hid (show byV c = .int .u8 (c.toNat : Int) from rfl)
  clear hs hk hm
  unfold Sd.v Sd.cells
  rw [HBV.out]
  go_enter Tryz.func5, Tryz.ntmps5
  have fM := HM.out.fa
  go_wp2_with fail
  all_goals clear fM
  refine nxt HM fun w1 M => ?_
  clear HM; have HM := M; clear M
  refine (lawLong_any w1 s).mono ?_
  rintro e w2 ⟨rfl, hE2⟩
  replace HM := Lib.hid (HM.out.ext hE2)
  clear hE2
  cases hlo : longB s
  case true =>
    clear hlo
    have fM := HM.out.fa
    go_wp2_with fail
    all_goals clear fM
    refine (works_any W w2 hT HM.out.extTo).mono ?_
    rintro e w3 ⟨rfl, hE2⟩
    replace HM := Lib.hid (HM.out.ext hE2)
    clear hE2
    have fM := HM.out.fa
    go_wp2_with fail
    all_goals clear fM
    go_ret
    exact ⟨rfl, HM.out.extTo⟩
  have hl : s.text.length ≤ 300 ∧ s.e.text.length ≤ 300 ∧ s.token.length ≤ 300 := by
    unfold longB at hlo
    simp only [Bool.or_eq_false_iff, decide_eq_false_iff_not] at hlo
    omega
  have HL := Lib.hid hl
  clear hlo hl
  have fM := HM.out.fa
  go_wp2_with fail
  all_goals clear fM
  refine (docRight_any W w2 hT HM.out.extTo s (by have := HL.out; omega)).mono ?_
  rintro e w3 ⟨rfl, hE2⟩
  replace HM := Lib.hid (HM.out.ext hE2)
  clear hE2
  cases hb : sdB s
  case false =>
    clear hb
    have fM := HM.out.fa
    go_wp2_with fail
    all_goals clear fM
    refine (works_any W w3 hT HM.out.extTo).mono ?_
    rintro e w4 ⟨rfl, hE2⟩
    replace HM := Lib.hid (HM.out.ext hE2)
    clear hE2
    have fM := HM.out.fa
    go_wp2_with fail
    all_goals clear fM
    go_ret
    exact ⟨rfl, HM.out.extTo⟩
  have HB := Lib.hid hb
  clear hb
  by_cases h20 : 20 < more
  · skip
    have fM := HM.out.fa
    go_wp2_with fail
    all_goals clear fM
    refine (works_any W w3 hT HM.out.extTo).mono ?_
    rintro e w4 ⟨rfl, hE2⟩
    replace HM := Lib.hid (HM.out.ext hE2)
    clear hE2
    have fM := HM.out.fa
    go_wp2_with fail
    all_goals clear fM
    go_ret
    exact ⟨rfl, HM.out.extTo⟩
  have H20 := Lib.hid h20
  have fM := HM.out.fa
  go_wp2_with fail
  all_goals clear fM
  clear h20
  refine (docBody_any w3 s HB.out HL.out).mono ?_
  rintro e w4 ⟨v4, rfl, hU⟩
  obtain ⟨F2, u1, u2, u3⟩ := hU
  obtain ⟨l, hl⟩ : ∃ l, bodyL s = l := ⟨_, rfl⟩
  have HLL := Lib.hid (show l.length ≤ 470 by rw [← hl]; exact body_len s HB.out)
  rw [hl] at u1
  obtain ⟨a4, c4, rfl⟩ := bytR.len u1
  replace HM := Lib.hid (HM.out.new (r := bytR (.slice a4 l.length c4) l) (G := F2) u2 u1 (fun k hk => (u3 k hk).elim (fun h => (noB _ h).elim) id))
  clear u1 u2 u3 hl
  clear F2
  have fM := HM.out.fa
  go_upto_region 4 with fail
  clear fM
  replace HM := Lib.hid (Mem.sub (L' := [bytR (.slice a4 l.length c4) l]) HM.out (by repeat first | exact Sub.nil | refine Sub.cons (by with_reducible repeat first | exact ph | apply pt) ?_))
  go_cut [35] from 28 to 35 (fun x wx => ∃ q : Bool, x = .bool q ∧ Hid (q = true → 0 ≤ i ∧ i < l.length) ∧ w4 = wx)
  case first =>
    by_cases h1 : 0 ≤ i
    · by_cases h2 : i < l.length
      · have HD := Lib.hid (And.intro h1 h2)
        go_wp2_with fail
        go_meet
        case rel => exact ⟨true, rfl, Lib.hid fun _ => HD.out, rfl⟩
      · go_wp2_with fail
        go_meet
        case rel => exact ⟨false, rfl, Lib.hid (fun h => by cases h), rfl⟩
    · go_wp2_with fail
      go_meet
      case rel => exact ⟨false, rfl, Lib.hid (fun h => by cases h), rfl⟩
  obtain ⟨q, rfl, HQ, rfl⟩ := hcut
  go_upto_if 35 with fail
  go_cut [9] from 35 to 39 (fun x wx => ∃ l a c, Hid (l.length ≤ 470) ∧ x = .slice a l.length c ∧ Hid (Mem NoB W wx [bytR (.slice a l.length c) l]))
  case first =>
    cases q
    · go_wp2_with fail
      go_meet
      case rel => exact ⟨l, a4, c4, HLL, rfl, HM⟩
    · obtain ⟨h1, h2⟩ := HQ.out rfl
      obtain ⟨k, rfl⟩ := Int.eq_ofNat_of_zero_le h1
      have h3 : k < l.length := by omega
      have H3 := Lib.hid h3
      obtain ⟨g, o, rfl, -, -, ⟨u, hc⟩, hf⟩ := HM.out.bytForm k h3
      clear h1 h3
      go_wp2_with fail
      go_meet
      case rel => exact ⟨l.set k c, some ⟨g, o, none⟩, c4, Lib.hid (by have := HLL.out; simpa using this), by rw [List.length_set], Lib.hid (by rw [List.length_set]; exact HM.out.bytSet k H3.out c)⟩
  clear HM HLL HQ
  obtain ⟨l, a4, c4, HLL, rfl, HM⟩ := hcut
  obtain ⟨wk, hwk⟩ : ∃ x, x = wc := ⟨_, rfl⟩
  subst hwk
  go_upto_if 41 with fail
  go_cut [9] from 14 to 46 (fun x wx => ∃ l a c, Hid (l.length ≤ 490) ∧ x = .slice a l.length c ∧ Hid (Mem NoB W wx [bytR (.slice a l.length c) l]))
  case first =>
    by_cases h0 : 0 < more
    · obtain ⟨n, hn⟩ : ∃ n : Nat, more = n := ⟨more.toNat, by omega⟩
      have hn0 : 0 < n ∧ n ≤ 20 := by have := H20.out; omega
      have HN := Lib.hid hn0
      have HNM := Lib.hid hn
      clear hn hn0
      go_wp2_with (at_builtin; refine standing ?_)
      refine nxt HM fun w5 M => ?_
      clear HM; have HM := M; clear M
      replace HM := Lib.hid HM.out.bytEmpty
      obtain ⟨A5, hb5, hlt5⟩ := (HM.out.pick (r := bytR (.slice a4 l.length c4) l) (by with_reducible repeat first | exact ph | apply pt)).byt
      obtain ⟨v9, w9, hr, hm⟩ := Mem.bytAdd 30 HM.out _ l hb5 (by have := HLL.out; simp; omega)
      rw [List.nil_append] at hm
      obtain ⟨a9, c9, rfl⟩ := hm.fact (fun A h => bytR.len h)
      replace HM := Lib.hid hm
      refine ⟨?_⟩
      refine wpList_append_ran rfl _ _ hr rfl rfl rfl ?_
      clear hr hm hb5 hlt5
      go_wp2_with (at_builtin; refine standing ?_)
      obtain ⟨v8, w8, hr, hm⟩ := Mem.bytZeros 30 HM.out n HN.out.1 rfl (by have := HLL.out; have := HN.out; omega)
      obtain ⟨m, hme⟩ : ∃ m, l ++ List.replicate n 0 = m := ⟨_, rfl⟩
      have HME := Lib.hid (show m.length ≤ 490 by rw [← hme]; have := HLL.out; have := HN.out; simp; omega)
      rw [hme] at hm
      obtain ⟨a8, c8, rfl⟩ := hm.fact (fun A h => bytR.len h)
      replace HM := Lib.hid hm
      rw [HNM.out]
      refine ⟨?_⟩
      refine wpList_append_ran rfl _ _ hr rfl rfl rfl ?_
      rw [← HNM.out]
      clear hr hm hme
      go_wp2_with fail
      go_meet
      case rel => exact ⟨m, a8, c8, HME, rfl, Lib.hid (Mem.sub HM.out (by repeat first | exact Sub.nil | refine Sub.cons (by with_reducible repeat first | exact ph | apply pt) ?_))⟩
    · go_wp2_with fail
      go_meet
      case rel => exact ⟨l, a4, c4, Lib.hid (Nat.le_trans HLL.out (by decide)), rfl, HM⟩
  clear HM HLL
  obtain ⟨l, a4, c4, HLL, rfl, HM⟩ := hcut
  obtain ⟨wk, hwk⟩ : ∃ x, x = wc := ⟨_, rfl⟩
  subst hwk
  have fM := HM.out.fa
  go_upto_region 8 with fail
  clear fM
  have hng : wrap64 (-(l.length : Int)) = -(l.length : Int) := by have := HLL.out; exact IntWalk.wrap64_in _ (by omega)
  have HNG := Lib.hid hng
  clear hng
  go_cut [55] from 47 to 55 (fun x wx => ∃ q : Bool, x = .bool q ∧ Hid (q = true → more < 0 ∧ -(l.length : Int) ≤ more) ∧ wk = wx)
  case first =>
    have hng := HNG.out
    by_cases h1 : more < 0
    · by_cases h2 : -(l.length : Int) ≤ more
      · have HD := Lib.hid (And.intro h1 h2)
        go_wp2_with fail
        go_meet
        case rel => exact ⟨true, rfl, Lib.hid fun _ => HD.out, rfl⟩
      · go_wp2_with fail
        go_meet
        case rel => exact ⟨false, rfl, Lib.hid (fun h => by cases h), rfl⟩
    · go_wp2_with fail
      go_meet
      case rel => exact ⟨false, rfl, Lib.hid (fun h => by cases h), rfl⟩
  obtain ⟨q, rfl, HQ, rfl⟩ := hcut
  go_upto_if 55 with fail
  go_cut [9] from 55 to 61 (fun x wx => ∃ l a c, Hid (l.length ≤ 490) ∧ x = .slice a l.length c ∧ Hid (Mem NoB W wx []) ∧ Hid (∃ A, Bytes wx A (.slice a l.length c) l ∧ ∀ k, A k → k < wx.heap.size))
  case first =>
    cases q
    · go_wp2_with fail
      go_meet
      case rel => exact ⟨l, a4, c4, HLL, rfl, Lib.hid HM.out.nilL, Lib.hid HM.out.byt⟩
    · obtain ⟨h1, h2⟩ := HQ.out rfl
      obtain ⟨ed, hed⟩ : ∃ ed : Nat, (l.length : Int) + more = ed := ⟨((l.length : Int) + more).toNat, by omega⟩
      have hw : wrap64 ((l.length : Int) + more) = (ed : Int) := by have := HLL.out; rw [hed]; exact IntWalk.wrap64_in _ (by omega)
      obtain ⟨A5, hb5, hlt5⟩ := HM.out.byt
      have hle : ed ≤ l.length := by omega
      have hc4 := hb5.cap
      have hp := hb5.part 0 ed (Nat.zero_le _) hle
      have hsl := fun W => slice_h W a4 l.length c4 ed (by omega)
      rw [List.drop_zero] at hp
      obtain ⟨a6, c6, he6⟩ := hp.len
      rw [he6] at hp hsl
      have HB6 := Lib.hid (show ∃ A, Bytes wk A (.slice a6 (l.take ed).length c6) (l.take ed) ∧ ∀ k, A k → k < wk.heap.size from ⟨A5, hp, hlt5⟩)
      have HL6 := Lib.hid (show (l.take ed).length ≤ 490 by have := HLL.out; rw [List.length_take]; omega)
      obtain ⟨m, hm⟩ : ∃ m, l.take ed = m := ⟨_, rfl⟩
      rw [hm] at HB6 HL6 hsl
      clear h1 h2 hed hb5 hlt5 hle hc4 hp he6 hm
      go_wp2_with fail
      go_meet
      case rel => exact ⟨m, a6, c6, HL6, rfl, Lib.hid HM.out.nilL, HB6⟩
  clear HM HLL HQ HNG
  obtain ⟨l, a4, c4, HLL, rfl, HM, HBY⟩ := hcut
  obtain ⟨wk, hwk⟩ : ∃ x, x = wc := ⟨_, rfl⟩
  subst hwk
  have HW := Lib.hid HM.out.extTo
  replace HM := Lib.hid (Mem.start0 wk)
  obtain ⟨A, hby, hlt⟩ := HBY.out
  have HB1 := Lib.hid hby
  have HB2 := Lib.hid hlt
  clear HBY hby hlt
  have fM := HM.out.fa
  go_wp2_with fail
  all_goals clear fM
  refine (parse_any W wk hT HW.out _ l HB1.out (by have := HLL.out; omega)).mono ?_
  rintro e w5 ⟨rfl, hE2⟩
  obtain ⟨⟨s2, no⟩, hp⟩ : ∃ p, parseL l = p := ⟨_, rfl⟩
  have HP := Lib.hid hp
  rw [hp]
  dsimp only
  replace HM := Lib.hid (HM.out.ext hE2)
  clear hE2 hp
  unfold Sd.v Sd.cells
  have fM := HM.out.fa
  go_wp2_with fail
  all_goals clear fM
  refine nxt HM fun w6 M => ?_
  clear HM; have HM := M; clear M
  refine (docParse_any W w6 hT (HW.out.ext HM.out.extTo) _ l (HB1.out.ext HM.out.extTo) (fun k hk => Nat.lt_of_lt_of_le (HB2.out k hk) HM.out.extTo.size) (by have := HLL.out; omega)).mono ?_
  rintro e w7 ⟨rfl, hE2⟩
  rw [HP.out]
  dsimp only
  replace HM := Lib.hid (HM.out.ext hE2)
  clear hE2
  unfold Sd.v Sd.cells
  have heq := fun W => eq_sd s2 s2 W
  unfold Sd.v Sd.cells at heq
  rw [decide_eq_true rfl] at heq
  have fM := HM.out.fa
  go_wp2_with fail
  all_goals clear fM
  clear heq
  refine nxt HM fun w8 M => ?_
  clear HM; have HM := M; clear M
  refine (num_any _ _).mono ?_
  rintro r wq ⟨rfl, hwq⟩
  rw [hwq]
  clear hwq wq
  have fM := HM.out.fa
  go_wp2_with fail
  all_goals clear fM
  refine (works_any W w8 hT (HW.out.ext HM.out.extTo)).mono ?_
  rintro e w9 ⟨rfl, hE3⟩
  replace HM := Lib.hid (HM.out.ext hE3)
  clear hE3
  have fM := HM.out.fa
  go_wp2_with fail
  all_goals clear fM
  go_ret
  exact ⟨rfl, HW.out.ext HM.out.extTo⟩
end Go.Proofs.YtcfgnbbiljohjaaGreatDoor
end
