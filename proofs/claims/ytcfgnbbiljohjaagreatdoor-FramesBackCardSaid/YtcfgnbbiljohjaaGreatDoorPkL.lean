/- Texts Body, DocRaw, Raws, SC, DocRd, TakeLay, DocParse, CutS, one behind the other. Conditions: as each says. -/
import Derived.Test.YtcfgnbbiljohjaaGreatDoorPkK
import Derived.Deep.CutRange
section
/- The document's body of what is said. Condition: it may be said. -/
set_option linter.unusedVariables false
set_option linter.unusedSimpArgs false
set_option maxHeartbeats 4000000
set_option maxRecDepth 10000
namespace Go.Proofs.YtcfgnbbiljohjaaGreatDoor
open Go.RowKit
theorem bodyNum_any {A : Nat → Prop} (w : World) (a : Option Addr) (c : Nat) (l : List UInt8) (n : Nat) (hn : n ≤ 2147483647) (hl : l.length ≤ 1048576) (h : (bytR (.slice a l.length c) l).p A w) :
    Calls Tryz.prog 44 #[.slice a l.length c, .int .i64 (n : Int)] w fun e w' => ∃ v', e = .returned v' ∧ Upd A w w' (bytR v' (l ++ numL n)) := by
  have HM := Lib.hid (Mem.start (r := bytR (.slice a l.length c) l) h)
  have HLL := Lib.hid hl
  have HNN := Lib.hid hn
  clear h
  go_enter Tryz.func44, Tryz.ntmps44
  go_wp2_with fail
  refine (rnumL_any w n (by omega)).mono ?_
  rintro e w2 ⟨v2, rfl, hU⟩
  obtain ⟨hb2, hE2⟩ := hU.byt
  have HB2 := Lib.hid hb2
  replace HM := Lib.hid (HM.out.ext hE2)
  obtain ⟨l2, hl2⟩ : ∃ l2, numL n = l2 := ⟨_, rfl⟩
  have HL2 := Lib.hid (show numL n = l2 ∧ l2.length ≤ 10 from ⟨hl2, by rw [← hl2]; exact (numL_len _).2⟩)
  rw [hl2] at HB2
  obtain ⟨a2, c2, rfl⟩ := HB2.out.len
  clear hU hb2 hE2 hl2
  go_wp2_with (at_builtin; refine standing ?_)
  obtain ⟨v8, w8, hr, hm9⟩ := Mem.bytAdd 30 HM.out _ _ HB2.out (by have := HL2.out; have := HLL.out; omega)
  replace HM := Lib.hid hm9
  refine ⟨?_⟩
  refine wpList_append_ran rfl _ _ hr rfl rfl rfl ?_
  clear hr hm9
  go_wp2_with fail
  go_ret
  rw [HL2.out.1]
  exact ⟨_, rfl, HM.out.upd⟩
theorem docBody_any (w : World) (s : Sd) (hb : sdB s = true) (hl : s.text.length ≤ 300 ∧ s.e.text.length ≤ 300 ∧ s.token.length ≤ 300) :
    Calls Tryz.prog 18 #[s.v] w fun e w' => ∃ v', e = .returned v' ∧ Upd NoB w w' (bytR v' (bodyL s)) := by
  have HM := Lib.hid (Mem.start0 w).bytNil
  rw [← right_eq] at hb
  simp only [Bool.and_eq_true, decide_eq_true_eq] at hb
  obtain ⟨⟨⟨hk, -⟩, hbd⟩, hown⟩ := hb
  obtain ⟨g1, g2, g3, g4, g5, g6, g7⟩ := (bnd_iff s).1 hbd
  obtain ⟨k, m, n, i, is, t, tok, en⟩ := s
  dsimp only at hk g1 g2 g3 g4 g5 g6 g7 hl
  obtain ⟨m, rfl⟩ := Int.eq_ofNat_of_zero_le g1
  obtain ⟨n, rfl⟩ := Int.eq_ofNat_of_zero_le g3
  obtain ⟨i, rfl⟩ := Int.eq_ofNat_of_zero_le g5
  have HTL := Lib.hid hl
  clear hbd g1 g3 g5 hl
  have HG := Lib.hid (show m < 16 ∧ n ≤ 2147483647 ∧ i ≤ 2147483647 ∧ tok.length ≤ 200 by omega)
  clear g2 g4 g6 g7
  obtain rfl | rfl | rfl | rfl | rfl | rfl | rfl | rfl | rfl | rfl | rfl | rfl : k = 1 ∨ k = 2 ∨ k = 3 ∨ k = 4 ∨ k = 5 ∨ k = 6 ∨ k = 7 ∨ k = 8 ∨ k = 9 ∨ k = 10 ∨ k = 11 ∨ k = 12 := by omega
  · skip
    have HQ := Lib.hid (show bodyL ⟨1, m, n, i, is, t, tok, en⟩ = numL 1 ++ numL m ++ txtL tok by simp [bodyL, partsOf, Part.lay, partsOf])
    obtain ⟨q, hq⟩ : ∃ q, bodyL ⟨1, m, n, i, is, t, tok, en⟩ = q := ⟨_, rfl⟩
    rw [hq] at HQ ⊢
    clear hq hk hown
    unfold Sd.v Sd.cells
    dsimp only
    go_enter Tryz.func18, Tryz.ntmps18
    have fM := HM.out.fa
    go_wp2_with fail
    all_goals clear fM
    refine nxt HM fun w0 M => ?_
    clear HM; have HM := M; clear M
    obtain ⟨C, hC, hS⟩ := (HM.out.pick (r := bytR (.slice none 0 0) []) (by with_reducible repeat first | exact ph | apply pt)).step
    refine (bodyNum_any w0 none 0 [] 1 (by decide) (by decide) hC).mono ?_
    rintro e w1 ⟨v1, rfl, hU⟩
    rw [List.nil_append] at hU
    obtain ⟨l1, hl1⟩ : ∃ x, numL 1 = x := ⟨_, rfl⟩
    have HL1 := Lib.hid (show numL 1 = l1 ∧ l1.length ≤ 1000 from ⟨hl1, by rw [← hl1]; have := numL_len 1; omega⟩)
    rw [hl1] at hU
    obtain ⟨a1, c1, rfl⟩ : ∃ a c, v1 = .slice a l1.length c := let ⟨_, h, _⟩ := hU; bytR.len h
    replace HM := Lib.hid (hS _ _ hU)
    clear hU hS hC hl1
    clear C
    have fM := HM.out.fa
    go_wp2_with fail
    all_goals clear fM
    have hlt : m ≤ 2147483647 := by have := HG.out; omega
    obtain ⟨C, hC, hS⟩ := (HM.out.pick (r := bytR (.slice a1 l1.length c1) l1) (by with_reducible repeat first | exact ph | apply pt)).step
    have HPL := Lib.hid (numL_len m)
    refine (bodyNum_any _ a1 c1 l1 m (by omega) (by have := HL1.out.2; omega) hC).mono ?_
    rintro e w2 ⟨v2, rfl, hU⟩
    obtain ⟨l2, hl2⟩ : ∃ x, l1 ++ numL m = x := ⟨_, rfl⟩
    have HL2 := Lib.hid (show l1 ++ numL m = l2 ∧ l2.length ≤ 1000 * 2 from ⟨hl2, by rw [← hl2, List.length_append]; have := HL1.out.2; have := HPL.out; omega⟩)
    rw [hl2] at hU
    obtain ⟨a2, c2, rfl⟩ : ∃ a c, v2 = .slice a l2.length c := let ⟨_, h, _⟩ := hU; bytR.len h
    replace HM := Lib.hid (hS _ _ hU)
    clear hU hS hC hl2 HPL
    clear C
    clear hlt
    have fM := HM.out.fa
    go_wp2_with fail
    all_goals clear fM
    refine (rtxtL_any _ tok (by have := HTL.out; omega)).mono ?_
    rintro e wT ⟨vT, rfl, hU⟩
    obtain ⟨hbT, hET⟩ := hU.byt
    have HBT := Lib.hid hbT
    replace HM := Lib.hid (HM.out.ext hET)
    obtain ⟨lT, hlT⟩ : ∃ x, txtL tok = x := ⟨_, rfl⟩
    have HLT := Lib.hid (show txtL tok = lT ∧ lT.length ≤ 900 from ⟨hlT, by rw [← hlT]; unfold txtL; rw [List.length_append]; have := numL_len tok.length; have := HTL.out; omega⟩)
    rw [hlT] at HBT
    obtain ⟨aT, cT, rfl⟩ := HBT.out.len
    clear hU hbT hET hlT
    go_wp2_with (at_builtin; refine standing ?_)
    replace HM := Lib.hid (HM.out.pick (r := bytR (.slice a2 l2.length c2) l2) (by with_reducible repeat first | exact ph | apply pt))
    obtain ⟨v3, w3, hr, hm9⟩ := Mem.bytAdd 30 HM.out _ _ HBT.out (by have := HLT.out.2; have := HL2.out.2; omega)
    obtain ⟨l3, hl3⟩ : ∃ x, l2 ++ lT = x := ⟨_, rfl⟩
    have HL3 := Lib.hid (show l2 ++ txtL tok = l3 ∧ l3.length ≤ 1000 * 3 from ⟨by rw [HLT.out.1]; exact hl3, by rw [← hl3, List.length_append]; have := HL2.out.2; have := HLT.out.2; omega⟩)
    rw [hl3] at hm9
    replace HM := Lib.hid hm9
    obtain ⟨a3, c3, rfl⟩ : ∃ a c, v3 = .slice a l3.length c := by
      obtain ⟨A, hb, -⟩ := hm9.byt
      exact hb.len
    refine ⟨?_⟩
    refine wpList_append_ran rfl _ _ hr rfl rfl rfl ?_
    clear hr hm9 hl3 HBT HLT
    have fM := HM.out.fa
    go_wp2_with fail
    all_goals clear fM
    go_ret
    refine ⟨_, rfl, ?_⟩
    have hq : q = l3 := by rw [HQ.out]; rw [HL1.out.1]; rw [HL2.out.1]; rw [HL3.out.1]
    rw [hq]
    exact (HM.out.pick (r := bytR (.slice a3 l3.length c3) l3) (by with_reducible repeat first | exact ph | apply pt)).upd
  · skip
    have HQ := Lib.hid (show bodyL ⟨2, m, n, i, is, t, tok, en⟩ = numL 2 by simp [bodyL, partsOf, Part.lay, partsOf])
    obtain ⟨q, hq⟩ : ∃ q, bodyL ⟨2, m, n, i, is, t, tok, en⟩ = q := ⟨_, rfl⟩
    rw [hq] at HQ ⊢
    clear hq hk hown
    unfold Sd.v Sd.cells
    dsimp only
    go_enter Tryz.func18, Tryz.ntmps18
    have fM := HM.out.fa
    go_wp2_with fail
    all_goals clear fM
    refine nxt HM fun w0 M => ?_
    clear HM; have HM := M; clear M
    obtain ⟨C, hC, hS⟩ := (HM.out.pick (r := bytR (.slice none 0 0) []) (by with_reducible repeat first | exact ph | apply pt)).step
    refine (bodyNum_any w0 none 0 [] 2 (by decide) (by decide) hC).mono ?_
    rintro e w1 ⟨v1, rfl, hU⟩
    rw [List.nil_append] at hU
    obtain ⟨l1, hl1⟩ : ∃ x, numL 2 = x := ⟨_, rfl⟩
    have HL1 := Lib.hid (show numL 2 = l1 ∧ l1.length ≤ 1000 from ⟨hl1, by rw [← hl1]; have := numL_len 2; omega⟩)
    rw [hl1] at hU
    obtain ⟨a1, c1, rfl⟩ : ∃ a c, v1 = .slice a l1.length c := let ⟨_, h, _⟩ := hU; bytR.len h
    replace HM := Lib.hid (hS _ _ hU)
    clear hU hS hC hl1
    clear C
    have fM := HM.out.fa
    go_wp2_with fail
    all_goals clear fM
    go_ret
    refine ⟨_, rfl, ?_⟩
    have hq : q = l1 := by rw [HQ.out]; rw [HL1.out.1]
    rw [hq]
    exact (HM.out.pick (r := bytR (.slice a1 l1.length c1) l1) (by with_reducible repeat first | exact ph | apply pt)).upd
  · skip
    have HQ := Lib.hid (show bodyL ⟨3, m, n, i, is, t, tok, en⟩ = numL 3 by simp [bodyL, partsOf, Part.lay, partsOf])
    obtain ⟨q, hq⟩ : ∃ q, bodyL ⟨3, m, n, i, is, t, tok, en⟩ = q := ⟨_, rfl⟩
    rw [hq] at HQ ⊢
    clear hq hk hown
    unfold Sd.v Sd.cells
    dsimp only
    go_enter Tryz.func18, Tryz.ntmps18
    have fM := HM.out.fa
    go_wp2_with fail
    all_goals clear fM
    refine nxt HM fun w0 M => ?_
    clear HM; have HM := M; clear M
    obtain ⟨C, hC, hS⟩ := (HM.out.pick (r := bytR (.slice none 0 0) []) (by with_reducible repeat first | exact ph | apply pt)).step
    refine (bodyNum_any w0 none 0 [] 3 (by decide) (by decide) hC).mono ?_
    rintro e w1 ⟨v1, rfl, hU⟩
    rw [List.nil_append] at hU
    obtain ⟨l1, hl1⟩ : ∃ x, numL 3 = x := ⟨_, rfl⟩
    have HL1 := Lib.hid (show numL 3 = l1 ∧ l1.length ≤ 1000 from ⟨hl1, by rw [← hl1]; have := numL_len 3; omega⟩)
    rw [hl1] at hU
    obtain ⟨a1, c1, rfl⟩ : ∃ a c, v1 = .slice a l1.length c := let ⟨_, h, _⟩ := hU; bytR.len h
    replace HM := Lib.hid (hS _ _ hU)
    clear hU hS hC hl1
    clear C
    have fM := HM.out.fa
    go_wp2_with fail
    all_goals clear fM
    go_ret
    refine ⟨_, rfl, ?_⟩
    have hq : q = l1 := by rw [HQ.out]; rw [HL1.out.1]
    rw [hq]
    exact (HM.out.pick (r := bytR (.slice a1 l1.length c1) l1) (by with_reducible repeat first | exact ph | apply pt)).upd
  · skip
    have HQ := Lib.hid (show bodyL ⟨4, m, n, i, is, t, tok, en⟩ = numL 4 ++ numL n ++ txtL t by simp [bodyL, partsOf, Part.lay, partsOf])
    obtain ⟨q, hq⟩ : ∃ q, bodyL ⟨4, m, n, i, is, t, tok, en⟩ = q := ⟨_, rfl⟩
    rw [hq] at HQ ⊢
    clear hq hk hown
    unfold Sd.v Sd.cells
    dsimp only
    go_enter Tryz.func18, Tryz.ntmps18
    have fM := HM.out.fa
    go_wp2_with fail
    all_goals clear fM
    refine nxt HM fun w0 M => ?_
    clear HM; have HM := M; clear M
    obtain ⟨C, hC, hS⟩ := (HM.out.pick (r := bytR (.slice none 0 0) []) (by with_reducible repeat first | exact ph | apply pt)).step
    refine (bodyNum_any w0 none 0 [] 4 (by decide) (by decide) hC).mono ?_
    rintro e w1 ⟨v1, rfl, hU⟩
    rw [List.nil_append] at hU
    obtain ⟨l1, hl1⟩ : ∃ x, numL 4 = x := ⟨_, rfl⟩
    have HL1 := Lib.hid (show numL 4 = l1 ∧ l1.length ≤ 1000 from ⟨hl1, by rw [← hl1]; have := numL_len 4; omega⟩)
    rw [hl1] at hU
    obtain ⟨a1, c1, rfl⟩ : ∃ a c, v1 = .slice a l1.length c := let ⟨_, h, _⟩ := hU; bytR.len h
    replace HM := Lib.hid (hS _ _ hU)
    clear hU hS hC hl1
    clear C
    have fM := HM.out.fa
    go_wp2_with fail
    all_goals clear fM
    have hlt : n ≤ 2147483647 := by have := HG.out; omega
    obtain ⟨C, hC, hS⟩ := (HM.out.pick (r := bytR (.slice a1 l1.length c1) l1) (by with_reducible repeat first | exact ph | apply pt)).step
    have HPL := Lib.hid (numL_len n)
    refine (bodyNum_any _ a1 c1 l1 n (by omega) (by have := HL1.out.2; omega) hC).mono ?_
    rintro e w2 ⟨v2, rfl, hU⟩
    obtain ⟨l2, hl2⟩ : ∃ x, l1 ++ numL n = x := ⟨_, rfl⟩
    have HL2 := Lib.hid (show l1 ++ numL n = l2 ∧ l2.length ≤ 1000 * 2 from ⟨hl2, by rw [← hl2, List.length_append]; have := HL1.out.2; have := HPL.out; omega⟩)
    rw [hl2] at hU
    obtain ⟨a2, c2, rfl⟩ : ∃ a c, v2 = .slice a l2.length c := let ⟨_, h, _⟩ := hU; bytR.len h
    replace HM := Lib.hid (hS _ _ hU)
    clear hU hS hC hl2 HPL
    clear C
    clear hlt
    have fM := HM.out.fa
    go_wp2_with fail
    all_goals clear fM
    refine (rtxtL_any _ t (by have := HTL.out; omega)).mono ?_
    rintro e wT ⟨vT, rfl, hU⟩
    obtain ⟨hbT, hET⟩ := hU.byt
    have HBT := Lib.hid hbT
    replace HM := Lib.hid (HM.out.ext hET)
    obtain ⟨lT, hlT⟩ : ∃ x, txtL t = x := ⟨_, rfl⟩
    have HLT := Lib.hid (show txtL t = lT ∧ lT.length ≤ 900 from ⟨hlT, by rw [← hlT]; unfold txtL; rw [List.length_append]; have := numL_len t.length; have := HTL.out; omega⟩)
    rw [hlT] at HBT
    obtain ⟨aT, cT, rfl⟩ := HBT.out.len
    clear hU hbT hET hlT
    go_wp2_with (at_builtin; refine standing ?_)
    replace HM := Lib.hid (HM.out.pick (r := bytR (.slice a2 l2.length c2) l2) (by with_reducible repeat first | exact ph | apply pt))
    obtain ⟨v3, w3, hr, hm9⟩ := Mem.bytAdd 30 HM.out _ _ HBT.out (by have := HLT.out.2; have := HL2.out.2; omega)
    obtain ⟨l3, hl3⟩ : ∃ x, l2 ++ lT = x := ⟨_, rfl⟩
    have HL3 := Lib.hid (show l2 ++ txtL t = l3 ∧ l3.length ≤ 1000 * 3 from ⟨by rw [HLT.out.1]; exact hl3, by rw [← hl3, List.length_append]; have := HL2.out.2; have := HLT.out.2; omega⟩)
    rw [hl3] at hm9
    replace HM := Lib.hid hm9
    obtain ⟨a3, c3, rfl⟩ : ∃ a c, v3 = .slice a l3.length c := by
      obtain ⟨A, hb, -⟩ := hm9.byt
      exact hb.len
    refine ⟨?_⟩
    refine wpList_append_ran rfl _ _ hr rfl rfl rfl ?_
    clear hr hm9 hl3 HBT HLT
    have fM := HM.out.fa
    go_wp2_with fail
    all_goals clear fM
    go_ret
    refine ⟨_, rfl, ?_⟩
    have hq : q = l3 := by rw [HQ.out]; rw [HL1.out.1]; rw [HL2.out.1]; rw [HL3.out.1]
    rw [hq]
    exact (HM.out.pick (r := bytR (.slice a3 l3.length c3) l3) (by with_reducible repeat first | exact ph | apply pt)).upd
  · skip
    have HQ := Lib.hid (show bodyL ⟨5, m, n, i, is, t, tok, en⟩ = numL 5 ++ numL i by simp [bodyL, partsOf, Part.lay, partsOf])
    obtain ⟨q, hq⟩ : ∃ q, bodyL ⟨5, m, n, i, is, t, tok, en⟩ = q := ⟨_, rfl⟩
    rw [hq] at HQ ⊢
    clear hq hk hown
    unfold Sd.v Sd.cells
    dsimp only
    go_enter Tryz.func18, Tryz.ntmps18
    have fM := HM.out.fa
    go_wp2_with fail
    all_goals clear fM
    refine nxt HM fun w0 M => ?_
    clear HM; have HM := M; clear M
    obtain ⟨C, hC, hS⟩ := (HM.out.pick (r := bytR (.slice none 0 0) []) (by with_reducible repeat first | exact ph | apply pt)).step
    refine (bodyNum_any w0 none 0 [] 5 (by decide) (by decide) hC).mono ?_
    rintro e w1 ⟨v1, rfl, hU⟩
    rw [List.nil_append] at hU
    obtain ⟨l1, hl1⟩ : ∃ x, numL 5 = x := ⟨_, rfl⟩
    have HL1 := Lib.hid (show numL 5 = l1 ∧ l1.length ≤ 1000 from ⟨hl1, by rw [← hl1]; have := numL_len 5; omega⟩)
    rw [hl1] at hU
    obtain ⟨a1, c1, rfl⟩ : ∃ a c, v1 = .slice a l1.length c := let ⟨_, h, _⟩ := hU; bytR.len h
    replace HM := Lib.hid (hS _ _ hU)
    clear hU hS hC hl1
    clear C
    have fM := HM.out.fa
    go_wp2_with fail
    all_goals clear fM
    have hlt : i ≤ 2147483647 := by have := HG.out; omega
    obtain ⟨C, hC, hS⟩ := (HM.out.pick (r := bytR (.slice a1 l1.length c1) l1) (by with_reducible repeat first | exact ph | apply pt)).step
    have HPL := Lib.hid (numL_len i)
    refine (bodyNum_any _ a1 c1 l1 i (by omega) (by have := HL1.out.2; omega) hC).mono ?_
    rintro e w2 ⟨v2, rfl, hU⟩
    obtain ⟨l2, hl2⟩ : ∃ x, l1 ++ numL i = x := ⟨_, rfl⟩
    have HL2 := Lib.hid (show l1 ++ numL i = l2 ∧ l2.length ≤ 1000 * 2 from ⟨hl2, by rw [← hl2, List.length_append]; have := HL1.out.2; have := HPL.out; omega⟩)
    rw [hl2] at hU
    obtain ⟨a2, c2, rfl⟩ : ∃ a c, v2 = .slice a l2.length c := let ⟨_, h, _⟩ := hU; bytR.len h
    replace HM := Lib.hid (hS _ _ hU)
    clear hU hS hC hl2 HPL
    clear C
    clear hlt
    have fM := HM.out.fa
    go_wp2_with fail
    all_goals clear fM
    go_ret
    refine ⟨_, rfl, ?_⟩
    have hq : q = l2 := by rw [HQ.out]; rw [HL1.out.1]; rw [HL2.out.1]
    rw [hq]
    exact (HM.out.pick (r := bytR (.slice a2 l2.length c2) l2) (by with_reducible repeat first | exact ph | apply pt)).upd
  · skip
    have HQ := Lib.hid (show bodyL ⟨6, m, n, i, is, t, tok, en⟩ = numL 6 by simp [bodyL, partsOf, Part.lay, partsOf])
    obtain ⟨q, hq⟩ : ∃ q, bodyL ⟨6, m, n, i, is, t, tok, en⟩ = q := ⟨_, rfl⟩
    rw [hq] at HQ ⊢
    clear hq hk hown
    unfold Sd.v Sd.cells
    dsimp only
    go_enter Tryz.func18, Tryz.ntmps18
    have fM := HM.out.fa
    go_wp2_with fail
    all_goals clear fM
    refine nxt HM fun w0 M => ?_
    clear HM; have HM := M; clear M
    obtain ⟨C, hC, hS⟩ := (HM.out.pick (r := bytR (.slice none 0 0) []) (by with_reducible repeat first | exact ph | apply pt)).step
    refine (bodyNum_any w0 none 0 [] 6 (by decide) (by decide) hC).mono ?_
    rintro e w1 ⟨v1, rfl, hU⟩
    rw [List.nil_append] at hU
    obtain ⟨l1, hl1⟩ : ∃ x, numL 6 = x := ⟨_, rfl⟩
    have HL1 := Lib.hid (show numL 6 = l1 ∧ l1.length ≤ 1000 from ⟨hl1, by rw [← hl1]; have := numL_len 6; omega⟩)
    rw [hl1] at hU
    obtain ⟨a1, c1, rfl⟩ : ∃ a c, v1 = .slice a l1.length c := let ⟨_, h, _⟩ := hU; bytR.len h
    replace HM := Lib.hid (hS _ _ hU)
    clear hU hS hC hl1
    clear C
    have fM := HM.out.fa
    go_wp2_with fail
    all_goals clear fM
    go_ret
    refine ⟨_, rfl, ?_⟩
    have hq : q = l1 := by rw [HQ.out]; rw [HL1.out.1]
    rw [hq]
    exact (HM.out.pick (r := bytR (.slice a1 l1.length c1) l1) (by with_reducible repeat first | exact ph | apply pt)).upd
  · skip
    have HQ := Lib.hid (show bodyL ⟨7, m, n, i, is, t, tok, en⟩ = numL 7 ++ truL is by simp [bodyL, partsOf, Part.lay, partsOf])
    obtain ⟨q, hq⟩ : ∃ q, bodyL ⟨7, m, n, i, is, t, tok, en⟩ = q := ⟨_, rfl⟩
    rw [hq] at HQ ⊢
    clear hq hk hown
    unfold Sd.v Sd.cells
    dsimp only
    go_enter Tryz.func18, Tryz.ntmps18
    have fM := HM.out.fa
    go_wp2_with fail
    all_goals clear fM
    refine nxt HM fun w0 M => ?_
    clear HM; have HM := M; clear M
    obtain ⟨C, hC, hS⟩ := (HM.out.pick (r := bytR (.slice none 0 0) []) (by with_reducible repeat first | exact ph | apply pt)).step
    refine (bodyNum_any w0 none 0 [] 7 (by decide) (by decide) hC).mono ?_
    rintro e w1 ⟨v1, rfl, hU⟩
    rw [List.nil_append] at hU
    obtain ⟨l1, hl1⟩ : ∃ x, numL 7 = x := ⟨_, rfl⟩
    have HL1 := Lib.hid (show numL 7 = l1 ∧ l1.length ≤ 1000 from ⟨hl1, by rw [← hl1]; have := numL_len 7; omega⟩)
    rw [hl1] at hU
    obtain ⟨a1, c1, rfl⟩ : ∃ a c, v1 = .slice a l1.length c := let ⟨_, h, _⟩ := hU; bytR.len h
    replace HM := Lib.hid (hS _ _ hU)
    clear hU hS hC hl1
    clear C
    have fM := HM.out.fa
    go_wp2_with fail
    all_goals clear fM
    refine (rtruL_any _ is).mono ?_
    rintro e wT ⟨vT, rfl, hU⟩
    obtain ⟨hbT, hET⟩ := hU.byt
    have HBT := Lib.hid hbT
    replace HM := Lib.hid (HM.out.ext hET)
    obtain ⟨lT, hlT⟩ : ∃ x, truL is = x := ⟨_, rfl⟩
    have HLT := Lib.hid (show truL is = lT ∧ lT.length ≤ 900 from ⟨hlT, by rw [← hlT]; cases is <;> decide⟩)
    rw [hlT] at HBT
    obtain ⟨aT, cT, rfl⟩ := HBT.out.len
    clear hU hbT hET hlT
    go_wp2_with (at_builtin; refine standing ?_)
    replace HM := Lib.hid (HM.out.pick (r := bytR (.slice a1 l1.length c1) l1) (by with_reducible repeat first | exact ph | apply pt))
    obtain ⟨v2, w2, hr, hm9⟩ := Mem.bytAdd 30 HM.out _ _ HBT.out (by have := HLT.out.2; have := HL1.out.2; omega)
    obtain ⟨l2, hl2⟩ : ∃ x, l1 ++ lT = x := ⟨_, rfl⟩
    have HL2 := Lib.hid (show l1 ++ truL is = l2 ∧ l2.length ≤ 1000 * 2 from ⟨by rw [HLT.out.1]; exact hl2, by rw [← hl2, List.length_append]; have := HL1.out.2; have := HLT.out.2; omega⟩)
    rw [hl2] at hm9
    replace HM := Lib.hid hm9
    obtain ⟨a2, c2, rfl⟩ : ∃ a c, v2 = .slice a l2.length c := by
      obtain ⟨A, hb, -⟩ := hm9.byt
      exact hb.len
    refine ⟨?_⟩
    refine wpList_append_ran rfl _ _ hr rfl rfl rfl ?_
    clear hr hm9 hl2 HBT HLT
    have fM := HM.out.fa
    go_wp2_with fail
    all_goals clear fM
    go_ret
    refine ⟨_, rfl, ?_⟩
    have hq : q = l2 := by rw [HQ.out]; rw [HL1.out.1]; rw [HL2.out.1]
    rw [hq]
    exact (HM.out.pick (r := bytR (.slice a2 l2.length c2) l2) (by with_reducible repeat first | exact ph | apply pt)).upd
  · skip
    have HQ := Lib.hid (show bodyL ⟨8, m, n, i, is, t, tok, en⟩ = numL 8 ++ numL i ++ txtL tok by simp [bodyL, partsOf, Part.lay, partsOf])
    obtain ⟨q, hq⟩ : ∃ q, bodyL ⟨8, m, n, i, is, t, tok, en⟩ = q := ⟨_, rfl⟩
    rw [hq] at HQ ⊢
    clear hq hk hown
    unfold Sd.v Sd.cells
    dsimp only
    go_enter Tryz.func18, Tryz.ntmps18
    have fM := HM.out.fa
    go_wp2_with fail
    all_goals clear fM
    refine nxt HM fun w0 M => ?_
    clear HM; have HM := M; clear M
    obtain ⟨C, hC, hS⟩ := (HM.out.pick (r := bytR (.slice none 0 0) []) (by with_reducible repeat first | exact ph | apply pt)).step
    refine (bodyNum_any w0 none 0 [] 8 (by decide) (by decide) hC).mono ?_
    rintro e w1 ⟨v1, rfl, hU⟩
    rw [List.nil_append] at hU
    obtain ⟨l1, hl1⟩ : ∃ x, numL 8 = x := ⟨_, rfl⟩
    have HL1 := Lib.hid (show numL 8 = l1 ∧ l1.length ≤ 1000 from ⟨hl1, by rw [← hl1]; have := numL_len 8; omega⟩)
    rw [hl1] at hU
    obtain ⟨a1, c1, rfl⟩ : ∃ a c, v1 = .slice a l1.length c := let ⟨_, h, _⟩ := hU; bytR.len h
    replace HM := Lib.hid (hS _ _ hU)
    clear hU hS hC hl1
    clear C
    have fM := HM.out.fa
    go_wp2_with fail
    all_goals clear fM
    have hlt : i ≤ 2147483647 := by have := HG.out; omega
    obtain ⟨C, hC, hS⟩ := (HM.out.pick (r := bytR (.slice a1 l1.length c1) l1) (by with_reducible repeat first | exact ph | apply pt)).step
    have HPL := Lib.hid (numL_len i)
    refine (bodyNum_any _ a1 c1 l1 i (by omega) (by have := HL1.out.2; omega) hC).mono ?_
    rintro e w2 ⟨v2, rfl, hU⟩
    obtain ⟨l2, hl2⟩ : ∃ x, l1 ++ numL i = x := ⟨_, rfl⟩
    have HL2 := Lib.hid (show l1 ++ numL i = l2 ∧ l2.length ≤ 1000 * 2 from ⟨hl2, by rw [← hl2, List.length_append]; have := HL1.out.2; have := HPL.out; omega⟩)
    rw [hl2] at hU
    obtain ⟨a2, c2, rfl⟩ : ∃ a c, v2 = .slice a l2.length c := let ⟨_, h, _⟩ := hU; bytR.len h
    replace HM := Lib.hid (hS _ _ hU)
    clear hU hS hC hl2 HPL
    clear C
    clear hlt
    have fM := HM.out.fa
    go_wp2_with fail
    all_goals clear fM
    refine (rtxtL_any _ tok (by have := HTL.out; omega)).mono ?_
    rintro e wT ⟨vT, rfl, hU⟩
    obtain ⟨hbT, hET⟩ := hU.byt
    have HBT := Lib.hid hbT
    replace HM := Lib.hid (HM.out.ext hET)
    obtain ⟨lT, hlT⟩ : ∃ x, txtL tok = x := ⟨_, rfl⟩
    have HLT := Lib.hid (show txtL tok = lT ∧ lT.length ≤ 900 from ⟨hlT, by rw [← hlT]; unfold txtL; rw [List.length_append]; have := numL_len tok.length; have := HTL.out; omega⟩)
    rw [hlT] at HBT
    obtain ⟨aT, cT, rfl⟩ := HBT.out.len
    clear hU hbT hET hlT
    go_wp2_with (at_builtin; refine standing ?_)
    replace HM := Lib.hid (HM.out.pick (r := bytR (.slice a2 l2.length c2) l2) (by with_reducible repeat first | exact ph | apply pt))
    obtain ⟨v3, w3, hr, hm9⟩ := Mem.bytAdd 30 HM.out _ _ HBT.out (by have := HLT.out.2; have := HL2.out.2; omega)
    obtain ⟨l3, hl3⟩ : ∃ x, l2 ++ lT = x := ⟨_, rfl⟩
    have HL3 := Lib.hid (show l2 ++ txtL tok = l3 ∧ l3.length ≤ 1000 * 3 from ⟨by rw [HLT.out.1]; exact hl3, by rw [← hl3, List.length_append]; have := HL2.out.2; have := HLT.out.2; omega⟩)
    rw [hl3] at hm9
    replace HM := Lib.hid hm9
    obtain ⟨a3, c3, rfl⟩ : ∃ a c, v3 = .slice a l3.length c := by
      obtain ⟨A, hb, -⟩ := hm9.byt
      exact hb.len
    refine ⟨?_⟩
    refine wpList_append_ran rfl _ _ hr rfl rfl rfl ?_
    clear hr hm9 hl3 HBT HLT
    have fM := HM.out.fa
    go_wp2_with fail
    all_goals clear fM
    go_ret
    refine ⟨_, rfl, ?_⟩
    have hq : q = l3 := by rw [HQ.out]; rw [HL1.out.1]; rw [HL2.out.1]; rw [HL3.out.1]
    rw [hq]
    exact (HM.out.pick (r := bytR (.slice a3 l3.length c3) l3) (by with_reducible repeat first | exact ph | apply pt)).upd
  · have hen : enB en = true ∧ ¬ en.kind = 1 := by simpa [ownB] using hown
    obtain ⟨⟨e1, e2⟩, ⟨e3, e4⟩, e5⟩ := enB_bounds hen.2 hen.1
    obtain ⟨ek, em, enn, et⟩ := en
    dsimp only at e1 e2 e3 e4 e5 HTL
    obtain ⟨em, rfl⟩ := Int.eq_ofNat_of_zero_le e3
    by_cases h4 : ek = 4
    · subst h4
      obtain ⟨e6, e7, e8⟩ := e5 rfl
      obtain ⟨enn, rfl⟩ := Int.eq_ofNat_of_zero_le e6
      have HG2 := Lib.hid (show em ≤ 15 ∧ enn ≤ 2147483647 by omega)
      clear e1 e2 e3 e4 e5 e6 e7 e8 hen
      have HQ := Lib.hid (show bodyL ⟨9, m, n, i, is, t, tok, ⟨4, em, enn, et⟩⟩ = numL 9 ++ numL i ++ txtL tok ++ numL 4 ++ numL em ++ numL enn ++ txtL et by simp [bodyL, partsOf, Part.lay, partsOf])
      obtain ⟨q, hq⟩ : ∃ q, bodyL ⟨9, m, n, i, is, t, tok, ⟨4, em, enn, et⟩⟩ = q := ⟨_, rfl⟩
      rw [hq] at HQ ⊢
      clear hq hk hown
      unfold Sd.v Sd.cells
      dsimp only
      go_enter Tryz.func18, Tryz.ntmps18
      have fM := HM.out.fa
      go_wp2_with fail
      all_goals clear fM
      refine nxt HM fun w0 M => ?_
      clear HM; have HM := M; clear M
      obtain ⟨C, hC, hS⟩ := (HM.out.pick (r := bytR (.slice none 0 0) []) (by with_reducible repeat first | exact ph | apply pt)).step
      refine (bodyNum_any w0 none 0 [] 9 (by decide) (by decide) hC).mono ?_
      rintro e w1 ⟨v1, rfl, hU⟩
      rw [List.nil_append] at hU
      obtain ⟨l1, hl1⟩ : ∃ x, numL 9 = x := ⟨_, rfl⟩
      have HL1 := Lib.hid (show numL 9 = l1 ∧ l1.length ≤ 1000 from ⟨hl1, by rw [← hl1]; have := numL_len 9; omega⟩)
      rw [hl1] at hU
      obtain ⟨a1, c1, rfl⟩ : ∃ a c, v1 = .slice a l1.length c := let ⟨_, h, _⟩ := hU; bytR.len h
      replace HM := Lib.hid (hS _ _ hU)
      clear hU hS hC hl1
      clear C
      have fM := HM.out.fa
      go_wp2_with fail
      all_goals clear fM
      have hlt : i ≤ 2147483647 := by have := HG.out; omega
      obtain ⟨C, hC, hS⟩ := (HM.out.pick (r := bytR (.slice a1 l1.length c1) l1) (by with_reducible repeat first | exact ph | apply pt)).step
      have HPL := Lib.hid (numL_len i)
      refine (bodyNum_any _ a1 c1 l1 i (by omega) (by have := HL1.out.2; omega) hC).mono ?_
      rintro e w2 ⟨v2, rfl, hU⟩
      obtain ⟨l2, hl2⟩ : ∃ x, l1 ++ numL i = x := ⟨_, rfl⟩
      have HL2 := Lib.hid (show l1 ++ numL i = l2 ∧ l2.length ≤ 1000 * 2 from ⟨hl2, by rw [← hl2, List.length_append]; have := HL1.out.2; have := HPL.out; omega⟩)
      rw [hl2] at hU
      obtain ⟨a2, c2, rfl⟩ : ∃ a c, v2 = .slice a l2.length c := let ⟨_, h, _⟩ := hU; bytR.len h
      replace HM := Lib.hid (hS _ _ hU)
      clear hU hS hC hl2 HPL
      clear C
      clear hlt
      have fM := HM.out.fa
      go_wp2_with fail
      all_goals clear fM
      refine (rtxtL_any _ tok (by have := HTL.out; omega)).mono ?_
      rintro e wT ⟨vT, rfl, hU⟩
      obtain ⟨hbT, hET⟩ := hU.byt
      have HBT := Lib.hid hbT
      replace HM := Lib.hid (HM.out.ext hET)
      obtain ⟨lT, hlT⟩ : ∃ x, txtL tok = x := ⟨_, rfl⟩
      have HLT := Lib.hid (show txtL tok = lT ∧ lT.length ≤ 900 from ⟨hlT, by rw [← hlT]; unfold txtL; rw [List.length_append]; have := numL_len tok.length; have := HTL.out; omega⟩)
      rw [hlT] at HBT
      obtain ⟨aT, cT, rfl⟩ := HBT.out.len
      clear hU hbT hET hlT
      go_wp2_with (at_builtin; refine standing ?_)
      replace HM := Lib.hid (HM.out.pick (r := bytR (.slice a2 l2.length c2) l2) (by with_reducible repeat first | exact ph | apply pt))
      obtain ⟨v3, w3, hr, hm9⟩ := Mem.bytAdd 30 HM.out _ _ HBT.out (by have := HLT.out.2; have := HL2.out.2; omega)
      obtain ⟨l3, hl3⟩ : ∃ x, l2 ++ lT = x := ⟨_, rfl⟩
      have HL3 := Lib.hid (show l2 ++ txtL tok = l3 ∧ l3.length ≤ 1000 * 3 from ⟨by rw [HLT.out.1]; exact hl3, by rw [← hl3, List.length_append]; have := HL2.out.2; have := HLT.out.2; omega⟩)
      rw [hl3] at hm9
      replace HM := Lib.hid hm9
      obtain ⟨a3, c3, rfl⟩ : ∃ a c, v3 = .slice a l3.length c := by
        obtain ⟨A, hb, -⟩ := hm9.byt
        exact hb.len
      refine ⟨?_⟩
      refine wpList_append_ran rfl _ _ hr rfl rfl rfl ?_
      clear hr hm9 hl3 HBT HLT
      have fM := HM.out.fa
      go_wp2_with fail
      all_goals clear fM
      refine nxt HM fun w4 M => ?_
      clear HM; have HM := M; clear M
      obtain ⟨kt, hkt⟩ : ∃ k, w3.heap.size = k := ⟨_, rfl⟩
      rw [hkt] at HM ⊢
      clear hkt
      obtain ⟨C, hC, ha1, -, hS⟩ := HM.out.apart1 (r := bytR (.slice a3 l3.length c3) l3) (b := kt) (by with_reducible repeat first | exact ph | apply pt) (by with_reducible repeat first | exact ph | apply pt)
      have HPL := Lib.hid (numL_len 4)
      have fM := HM.out.fa
      have hE0 : Keeps (C) w4 w4.drew := (Keeps.refl _ _).drew
      refine wp_region_plan [(0, 0), (0, 1), (3, 2), (0, 4), (1, 5), (2, 3)] [5] [3, 6, 7] [6, 7] (ClsK (C) w4) (by kernel_rfl) (by kernel_rfl) (by kernel_rfl) rfl rfl (ClsK.of hE0) (fun _ _ _ d _ h => by cases d <;> exact h) ?_; simp only [planL, nL]
      refine pM _ rfl rfl ?_; simp only [nP, nE]
      refine pR (v := ?_) rfl (fun W => ?_) ?_; rotate_left; (go_simp <;> with_reducible rfl); simp only [nP]
      refine pX (v := ?_) rfl ?_ ?_; rotate_left; (go_simp <;> with_reducible rfl); simp only [nP]
      refine pR (v := ?_) rfl (fun W => ?_) ?_; rotate_left; (go_simp <;> with_reducible rfl); simp only [nP]
      refine pK (v := ?_) rfl (fun W => ?_) ?_; rotate_left; (go_simp <;> with_reducible rfl); simp only [nP]
      refine plan_does rfl (fun K hK => ?_)
      go_wp2_with fail
      refine (bodyNum_any _ a3 c3 l3 4 (by have := HG2.out; omega) (by have := HL3.out.2; omega) (Res.keeps _ hC (Ext.drew0 w4) (fun _ _ => noB _))).mono ?_
      rintro e w5 ⟨v5, rfl, hU⟩
      have hU2 := hU.pre (Ext.drew0 w4)
      have hE1 := hU2.keepsTo
      clear hU
      refine hK _ _ ⟨ClsK.of (by assumption), ?_⟩; clear hK K; try simp only [nP]
      refine plan_nil ?_; simp only [tailL, List.filterMap_cons, List.filterMap_nil, nL]; change wpList _ _ _ (_ :: _ :: []) _ _
      clear fM
      obtain ⟨l5, hl5⟩ : ∃ x, l3 ++ numL 4 = x := ⟨_, rfl⟩
      have HL5 := Lib.hid (show l3 ++ numL 4 = l5 ∧ l5.length ≤ 1000 * 5 from ⟨hl5, by rw [← hl5, List.length_append]; have := HL3.out.2; have := HPL.out; omega⟩)
      rw [hl5] at hU2
      obtain ⟨a5, c5, rfl⟩ : ∃ a c, v5 = .slice a l5.length c := let ⟨_, h, _⟩ := hU2; bytR.len h
      replace HM := Lib.hid (hS _ _ hU2)
      clear hU2 hE1 hE0 hS hC ha1 hl5 HPL
      clear C
      have fM := HM.out.fa
      go_wp2_with fail
      all_goals clear fM
      have hlt : em ≤ 2147483647 := by have := HG2.out; omega
      obtain ⟨C, hC, hS⟩ := (HM.out.pick (r := bytR (.slice a5 l5.length c5) l5) (by with_reducible repeat first | exact ph | apply pt)).step
      have HPL := Lib.hid (numL_len em)
      refine (bodyNum_any _ a5 c5 l5 em (by omega) (by have := HL5.out.2; omega) hC).mono ?_
      rintro e w6 ⟨v6, rfl, hU⟩
      obtain ⟨l6, hl6⟩ : ∃ x, l5 ++ numL em = x := ⟨_, rfl⟩
      have HL6 := Lib.hid (show l5 ++ numL em = l6 ∧ l6.length ≤ 1000 * 6 from ⟨hl6, by rw [← hl6, List.length_append]; have := HL5.out.2; have := HPL.out; omega⟩)
      rw [hl6] at hU
      obtain ⟨a6, c6, rfl⟩ : ∃ a c, v6 = .slice a l6.length c := let ⟨_, h, _⟩ := hU; bytR.len h
      replace HM := Lib.hid (hS _ _ hU)
      clear hU hS hC hl6 HPL
      clear C
      clear hlt
      have fM := HM.out.fa
      go_wp2_with fail
      all_goals clear fM
      obtain ⟨C, hC, ha1, -, hS⟩ := HM.out.apart1 (r := bytR (.slice a6 l6.length c6) l6) (b := kt) (by with_reducible repeat first | exact ph | apply pt) (by with_reducible repeat first | exact ph | apply pt)
      have HPL := Lib.hid (numL_len enn)
      have fM := HM.out.fa
      have hE0 : Keeps (C) w6 w6.drew := (Keeps.refl _ _).drew
      refine wp_region_plan [(0, 0), (0, 1), (3, 2), (0, 4), (1, 5), (2, 3)] [5] [3, 6, 7, 8] [6, 7, 8] (ClsK (C) w6) (by kernel_rfl) (by kernel_rfl) (by kernel_rfl) rfl rfl (ClsK.of hE0) (fun _ _ _ d _ h => by cases d <;> exact h) ?_; simp only [planL, nL]
      refine pM _ rfl rfl ?_; simp only [nP, nE]
      refine pR (v := ?_) rfl (fun W => ?_) ?_; rotate_left; (go_simp <;> with_reducible rfl); simp only [nP]
      refine pX (v := ?_) rfl ?_ ?_; rotate_left; (go_simp <;> with_reducible rfl); simp only [nP]
      refine pR (v := ?_) rfl (fun W => ?_) ?_; rotate_left; (go_simp <;> with_reducible rfl); simp only [nP]
      refine pK (v := ?_) rfl (fun W => ?_) ?_; rotate_left; (go_simp <;> with_reducible rfl); simp only [nP]
      refine plan_does rfl (fun K hK => ?_)
      go_wp2_with fail
      refine (bodyNum_any _ a6 c6 l6 enn (by have := HG2.out; omega) (by have := HL6.out.2; omega) (Res.keeps _ hC (Ext.drew0 w6) (fun _ _ => noB _))).mono ?_
      rintro e w7 ⟨v7, rfl, hU⟩
      have hU2 := hU.pre (Ext.drew0 w6)
      have hE1 := hU2.keepsTo
      clear hU
      refine hK _ _ ⟨ClsK.of (by assumption), ?_⟩; clear hK K; try simp only [nP]
      refine plan_nil ?_; simp only [tailL, List.filterMap_cons, List.filterMap_nil, nL]; change wpList _ _ _ (_ :: _ :: _ :: []) _ _
      clear fM
      obtain ⟨l7, hl7⟩ : ∃ x, l6 ++ numL enn = x := ⟨_, rfl⟩
      have HL7 := Lib.hid (show l6 ++ numL enn = l7 ∧ l7.length ≤ 1000 * 7 from ⟨hl7, by rw [← hl7, List.length_append]; have := HL6.out.2; have := HPL.out; omega⟩)
      rw [hl7] at hU2
      obtain ⟨a7, c7, rfl⟩ : ∃ a c, v7 = .slice a l7.length c := let ⟨_, h, _⟩ := hU2; bytR.len h
      replace HM := Lib.hid (hS _ _ hU2)
      clear hU2 hE1 hE0 hS hC ha1 hl7 HPL
      clear C
      have fM := HM.out.fa
      go_wp2_with fail
      all_goals clear fM
      refine (rtxtL_any _ et (by have := HTL.out; omega)).mono ?_
      rintro e wT ⟨vT, rfl, hU⟩
      obtain ⟨hbT, hET⟩ := hU.byt
      have HBT := Lib.hid hbT
      replace HM := Lib.hid (HM.out.ext hET)
      obtain ⟨lT, hlT⟩ : ∃ x, txtL et = x := ⟨_, rfl⟩
      have HLT := Lib.hid (show txtL et = lT ∧ lT.length ≤ 900 from ⟨hlT, by rw [← hlT]; unfold txtL; rw [List.length_append]; have := numL_len et.length; have := HTL.out; omega⟩)
      rw [hlT] at HBT
      obtain ⟨aT, cT, rfl⟩ := HBT.out.len
      clear hU hbT hET hlT
      go_wp2_with (at_builtin; refine standing ?_)
      replace HM := Lib.hid (HM.out.pick (r := bytR (.slice a7 l7.length c7) l7) (by with_reducible repeat first | exact ph | apply pt))
      obtain ⟨v8, w8, hr, hm9⟩ := Mem.bytAdd 30 HM.out _ _ HBT.out (by have := HLT.out.2; have := HL7.out.2; omega)
      obtain ⟨l8, hl8⟩ : ∃ x, l7 ++ lT = x := ⟨_, rfl⟩
      have HL8 := Lib.hid (show l7 ++ txtL et = l8 ∧ l8.length ≤ 1000 * 8 from ⟨by rw [HLT.out.1]; exact hl8, by rw [← hl8, List.length_append]; have := HL7.out.2; have := HLT.out.2; omega⟩)
      rw [hl8] at hm9
      replace HM := Lib.hid hm9
      obtain ⟨a8, c8, rfl⟩ : ∃ a c, v8 = .slice a l8.length c := by
        obtain ⟨A, hb, -⟩ := hm9.byt
        exact hb.len
      refine ⟨?_⟩
      refine wpList_append_ran rfl _ _ hr rfl rfl rfl ?_
      clear hr hm9 hl8 HBT HLT
      have fM := HM.out.fa
      go_wp2_with fail
      all_goals clear fM
      go_ret
      refine ⟨_, rfl, ?_⟩
      have hq : q = l8 := by rw [HQ.out]; rw [HL1.out.1, HL2.out.1, HL3.out.1, HL5.out.1, HL6.out.1, HL7.out.1, HL8.out.1]
      rw [hq]
      exact (HM.out.pick (r := bytR (.slice a8 l8.length c8) l8) (by with_reducible repeat first | exact ph | apply pt)).upd
    · obtain ⟨ek, rfl⟩ := Int.eq_ofNat_of_zero_le e1
      have HG2 := Lib.hid (show em ≤ 15 ∧ ek ≤ 4 by omega)
      clear e1 e2 e3 e4 e5 hen
      have HQ := Lib.hid (show bodyL ⟨9, m, n, i, is, t, tok, ⟨ek, em, enn, et⟩⟩ = numL 9 ++ numL i ++ txtL tok ++ numL ek ++ numL em by simp [bodyL, partsOf, Part.lay, h4])
      obtain ⟨q, hq⟩ : ∃ q, bodyL ⟨9, m, n, i, is, t, tok, ⟨ek, em, enn, et⟩⟩ = q := ⟨_, rfl⟩
      rw [hq] at HQ ⊢
      clear hq hk hown
      unfold Sd.v Sd.cells
      dsimp only
      go_enter Tryz.func18, Tryz.ntmps18
      have fM := HM.out.fa
      go_wp2_with fail
      all_goals clear fM
      refine nxt HM fun w0 M => ?_
      clear HM; have HM := M; clear M
      obtain ⟨C, hC, hS⟩ := (HM.out.pick (r := bytR (.slice none 0 0) []) (by with_reducible repeat first | exact ph | apply pt)).step
      refine (bodyNum_any w0 none 0 [] 9 (by decide) (by decide) hC).mono ?_
      rintro e w1 ⟨v1, rfl, hU⟩
      rw [List.nil_append] at hU
      obtain ⟨l1, hl1⟩ : ∃ x, numL 9 = x := ⟨_, rfl⟩
      have HL1 := Lib.hid (show numL 9 = l1 ∧ l1.length ≤ 1000 from ⟨hl1, by rw [← hl1]; have := numL_len 9; omega⟩)
      rw [hl1] at hU
      obtain ⟨a1, c1, rfl⟩ : ∃ a c, v1 = .slice a l1.length c := let ⟨_, h, _⟩ := hU; bytR.len h
      replace HM := Lib.hid (hS _ _ hU)
      clear hU hS hC hl1
      clear C
      have fM := HM.out.fa
      go_wp2_with fail
      all_goals clear fM
      have hlt : i ≤ 2147483647 := by have := HG.out; omega
      obtain ⟨C, hC, hS⟩ := (HM.out.pick (r := bytR (.slice a1 l1.length c1) l1) (by with_reducible repeat first | exact ph | apply pt)).step
      have HPL := Lib.hid (numL_len i)
      refine (bodyNum_any _ a1 c1 l1 i (by omega) (by have := HL1.out.2; omega) hC).mono ?_
      rintro e w2 ⟨v2, rfl, hU⟩
      obtain ⟨l2, hl2⟩ : ∃ x, l1 ++ numL i = x := ⟨_, rfl⟩
      have HL2 := Lib.hid (show l1 ++ numL i = l2 ∧ l2.length ≤ 1000 * 2 from ⟨hl2, by rw [← hl2, List.length_append]; have := HL1.out.2; have := HPL.out; omega⟩)
      rw [hl2] at hU
      obtain ⟨a2, c2, rfl⟩ : ∃ a c, v2 = .slice a l2.length c := let ⟨_, h, _⟩ := hU; bytR.len h
      replace HM := Lib.hid (hS _ _ hU)
      clear hU hS hC hl2 HPL
      clear C
      clear hlt
      have fM := HM.out.fa
      go_wp2_with fail
      all_goals clear fM
      refine (rtxtL_any _ tok (by have := HTL.out; omega)).mono ?_
      rintro e wT ⟨vT, rfl, hU⟩
      obtain ⟨hbT, hET⟩ := hU.byt
      have HBT := Lib.hid hbT
      replace HM := Lib.hid (HM.out.ext hET)
      obtain ⟨lT, hlT⟩ : ∃ x, txtL tok = x := ⟨_, rfl⟩
      have HLT := Lib.hid (show txtL tok = lT ∧ lT.length ≤ 900 from ⟨hlT, by rw [← hlT]; unfold txtL; rw [List.length_append]; have := numL_len tok.length; have := HTL.out; omega⟩)
      rw [hlT] at HBT
      obtain ⟨aT, cT, rfl⟩ := HBT.out.len
      clear hU hbT hET hlT
      go_wp2_with (at_builtin; refine standing ?_)
      replace HM := Lib.hid (HM.out.pick (r := bytR (.slice a2 l2.length c2) l2) (by with_reducible repeat first | exact ph | apply pt))
      obtain ⟨v3, w3, hr, hm9⟩ := Mem.bytAdd 30 HM.out _ _ HBT.out (by have := HLT.out.2; have := HL2.out.2; omega)
      obtain ⟨l3, hl3⟩ : ∃ x, l2 ++ lT = x := ⟨_, rfl⟩
      have HL3 := Lib.hid (show l2 ++ txtL tok = l3 ∧ l3.length ≤ 1000 * 3 from ⟨by rw [HLT.out.1]; exact hl3, by rw [← hl3, List.length_append]; have := HL2.out.2; have := HLT.out.2; omega⟩)
      rw [hl3] at hm9
      replace HM := Lib.hid hm9
      obtain ⟨a3, c3, rfl⟩ : ∃ a c, v3 = .slice a l3.length c := by
        obtain ⟨A, hb, -⟩ := hm9.byt
        exact hb.len
      refine ⟨?_⟩
      refine wpList_append_ran rfl _ _ hr rfl rfl rfl ?_
      clear hr hm9 hl3 HBT HLT
      have fM := HM.out.fa
      go_wp2_with fail
      all_goals clear fM
      refine nxt HM fun w4 M => ?_
      clear HM; have HM := M; clear M
      obtain ⟨kt, hkt⟩ : ∃ k, w3.heap.size = k := ⟨_, rfl⟩
      rw [hkt] at HM ⊢
      clear hkt
      obtain ⟨C, hC, ha1, -, hS⟩ := HM.out.apart1 (r := bytR (.slice a3 l3.length c3) l3) (b := kt) (by with_reducible repeat first | exact ph | apply pt) (by with_reducible repeat first | exact ph | apply pt)
      have HPL := Lib.hid (numL_len ek)
      have fM := HM.out.fa
      have hE0 : Keeps (C) w4 w4.drew := (Keeps.refl _ _).drew
      refine wp_region_plan [(0, 0), (0, 1), (3, 2), (0, 4), (1, 5), (2, 3)] [5] [3, 6, 7] [6, 7] (ClsK (C) w4) (by kernel_rfl) (by kernel_rfl) (by kernel_rfl) rfl rfl (ClsK.of hE0) (fun _ _ _ d _ h => by cases d <;> exact h) ?_; simp only [planL, nL]
      refine pM _ rfl rfl ?_; simp only [nP, nE]
      refine pR (v := ?_) rfl (fun W => ?_) ?_; rotate_left; (go_simp <;> with_reducible rfl); simp only [nP]
      refine pX (v := ?_) rfl ?_ ?_; rotate_left; (go_simp <;> with_reducible rfl); simp only [nP]
      refine pR (v := ?_) rfl (fun W => ?_) ?_; rotate_left; (go_simp <;> with_reducible rfl); simp only [nP]
      refine pK (v := ?_) rfl (fun W => ?_) ?_; rotate_left; (go_simp <;> with_reducible rfl); simp only [nP]
      refine plan_does rfl (fun K hK => ?_)
      go_wp2_with fail
      refine (bodyNum_any _ a3 c3 l3 ek (by have := HG2.out; omega) (by have := HL3.out.2; omega) (Res.keeps _ hC (Ext.drew0 w4) (fun _ _ => noB _))).mono ?_
      rintro e w5 ⟨v5, rfl, hU⟩
      have hU2 := hU.pre (Ext.drew0 w4)
      have hE1 := hU2.keepsTo
      clear hU
      refine hK _ _ ⟨ClsK.of (by assumption), ?_⟩; clear hK K; try simp only [nP]
      refine plan_nil ?_; simp only [tailL, List.filterMap_cons, List.filterMap_nil, nL]; change wpList _ _ _ (_ :: _ :: []) _ _
      clear fM
      obtain ⟨l5, hl5⟩ : ∃ x, l3 ++ numL ek = x := ⟨_, rfl⟩
      have HL5 := Lib.hid (show l3 ++ numL ek = l5 ∧ l5.length ≤ 1000 * 5 from ⟨hl5, by rw [← hl5, List.length_append]; have := HL3.out.2; have := HPL.out; omega⟩)
      rw [hl5] at hU2
      obtain ⟨a5, c5, rfl⟩ : ∃ a c, v5 = .slice a l5.length c := let ⟨_, h, _⟩ := hU2; bytR.len h
      replace HM := Lib.hid (hS _ _ hU2)
      clear hU2 hE1 hE0 hS hC ha1 hl5 HPL
      clear C
      have fM := HM.out.fa
      go_wp2_with fail
      all_goals clear fM
      have hlt : em ≤ 2147483647 := by have := HG2.out; omega
      obtain ⟨C, hC, hS⟩ := (HM.out.pick (r := bytR (.slice a5 l5.length c5) l5) (by with_reducible repeat first | exact ph | apply pt)).step
      have HPL := Lib.hid (numL_len em)
      refine (bodyNum_any _ a5 c5 l5 em (by omega) (by have := HL5.out.2; omega) hC).mono ?_
      rintro e w6 ⟨v6, rfl, hU⟩
      obtain ⟨l6, hl6⟩ : ∃ x, l5 ++ numL em = x := ⟨_, rfl⟩
      have HL6 := Lib.hid (show l5 ++ numL em = l6 ∧ l6.length ≤ 1000 * 6 from ⟨hl6, by rw [← hl6, List.length_append]; have := HL5.out.2; have := HPL.out; omega⟩)
      rw [hl6] at hU
      obtain ⟨a6, c6, rfl⟩ : ∃ a c, v6 = .slice a l6.length c := let ⟨_, h, _⟩ := hU; bytR.len h
      replace HM := Lib.hid (hS _ _ hU)
      clear hU hS hC hl6 HPL
      clear C
      clear hlt
      have fM := HM.out.fa
      go_wp2_with fail
      all_goals clear fM
      go_ret
      refine ⟨_, rfl, ?_⟩
      have hq : q = l6 := by rw [HQ.out]; rw [HL1.out.1, HL2.out.1, HL3.out.1, HL5.out.1, HL6.out.1]
      rw [hq]
      exact (HM.out.pick (r := bytR (.slice a6 l6.length c6) l6) (by with_reducible repeat first | exact ph | apply pt)).upd
  · skip
    have HQ := Lib.hid (show bodyL ⟨10, m, n, i, is, t, tok, en⟩ = numL 10 ++ numL m ++ truL is by simp [bodyL, partsOf, Part.lay, partsOf])
    obtain ⟨q, hq⟩ : ∃ q, bodyL ⟨10, m, n, i, is, t, tok, en⟩ = q := ⟨_, rfl⟩
    rw [hq] at HQ ⊢
    clear hq hk hown
    unfold Sd.v Sd.cells
    dsimp only
    go_enter Tryz.func18, Tryz.ntmps18
    have fM := HM.out.fa
    go_wp2_with fail
    all_goals clear fM
    refine nxt HM fun w0 M => ?_
    clear HM; have HM := M; clear M
    obtain ⟨C, hC, hS⟩ := (HM.out.pick (r := bytR (.slice none 0 0) []) (by with_reducible repeat first | exact ph | apply pt)).step
    refine (bodyNum_any w0 none 0 [] 10 (by decide) (by decide) hC).mono ?_
    rintro e w1 ⟨v1, rfl, hU⟩
    rw [List.nil_append] at hU
    obtain ⟨l1, hl1⟩ : ∃ x, numL 10 = x := ⟨_, rfl⟩
    have HL1 := Lib.hid (show numL 10 = l1 ∧ l1.length ≤ 1000 from ⟨hl1, by rw [← hl1]; have := numL_len 10; omega⟩)
    rw [hl1] at hU
    obtain ⟨a1, c1, rfl⟩ : ∃ a c, v1 = .slice a l1.length c := let ⟨_, h, _⟩ := hU; bytR.len h
    replace HM := Lib.hid (hS _ _ hU)
    clear hU hS hC hl1
    clear C
    have fM := HM.out.fa
    go_wp2_with fail
    all_goals clear fM
    have hlt : m ≤ 2147483647 := by have := HG.out; omega
    obtain ⟨C, hC, hS⟩ := (HM.out.pick (r := bytR (.slice a1 l1.length c1) l1) (by with_reducible repeat first | exact ph | apply pt)).step
    have HPL := Lib.hid (numL_len m)
    refine (bodyNum_any _ a1 c1 l1 m (by omega) (by have := HL1.out.2; omega) hC).mono ?_
    rintro e w2 ⟨v2, rfl, hU⟩
    obtain ⟨l2, hl2⟩ : ∃ x, l1 ++ numL m = x := ⟨_, rfl⟩
    have HL2 := Lib.hid (show l1 ++ numL m = l2 ∧ l2.length ≤ 1000 * 2 from ⟨hl2, by rw [← hl2, List.length_append]; have := HL1.out.2; have := HPL.out; omega⟩)
    rw [hl2] at hU
    obtain ⟨a2, c2, rfl⟩ : ∃ a c, v2 = .slice a l2.length c := let ⟨_, h, _⟩ := hU; bytR.len h
    replace HM := Lib.hid (hS _ _ hU)
    clear hU hS hC hl2 HPL
    clear C
    clear hlt
    have fM := HM.out.fa
    go_wp2_with fail
    all_goals clear fM
    refine (rtruL_any _ is).mono ?_
    rintro e wT ⟨vT, rfl, hU⟩
    obtain ⟨hbT, hET⟩ := hU.byt
    have HBT := Lib.hid hbT
    replace HM := Lib.hid (HM.out.ext hET)
    obtain ⟨lT, hlT⟩ : ∃ x, truL is = x := ⟨_, rfl⟩
    have HLT := Lib.hid (show truL is = lT ∧ lT.length ≤ 900 from ⟨hlT, by rw [← hlT]; cases is <;> decide⟩)
    rw [hlT] at HBT
    obtain ⟨aT, cT, rfl⟩ := HBT.out.len
    clear hU hbT hET hlT
    go_wp2_with (at_builtin; refine standing ?_)
    replace HM := Lib.hid (HM.out.pick (r := bytR (.slice a2 l2.length c2) l2) (by with_reducible repeat first | exact ph | apply pt))
    obtain ⟨v3, w3, hr, hm9⟩ := Mem.bytAdd 30 HM.out _ _ HBT.out (by have := HLT.out.2; have := HL2.out.2; omega)
    obtain ⟨l3, hl3⟩ : ∃ x, l2 ++ lT = x := ⟨_, rfl⟩
    have HL3 := Lib.hid (show l2 ++ truL is = l3 ∧ l3.length ≤ 1000 * 3 from ⟨by rw [HLT.out.1]; exact hl3, by rw [← hl3, List.length_append]; have := HL2.out.2; have := HLT.out.2; omega⟩)
    rw [hl3] at hm9
    replace HM := Lib.hid hm9
    obtain ⟨a3, c3, rfl⟩ : ∃ a c, v3 = .slice a l3.length c := by
      obtain ⟨A, hb, -⟩ := hm9.byt
      exact hb.len
    refine ⟨?_⟩
    refine wpList_append_ran rfl _ _ hr rfl rfl rfl ?_
    clear hr hm9 hl3 HBT HLT
    have fM := HM.out.fa
    go_wp2_with fail
    all_goals clear fM
    go_ret
    refine ⟨_, rfl, ?_⟩
    have hq : q = l3 := by rw [HQ.out]; rw [HL1.out.1]; rw [HL2.out.1]; rw [HL3.out.1]
    rw [hq]
    exact (HM.out.pick (r := bytR (.slice a3 l3.length c3) l3) (by with_reducible repeat first | exact ph | apply pt)).upd
  · skip
    have HQ := Lib.hid (show bodyL ⟨11, m, n, i, is, t, tok, en⟩ = numL 11 ++ numL m ++ truL is by simp [bodyL, partsOf, Part.lay, partsOf])
    obtain ⟨q, hq⟩ : ∃ q, bodyL ⟨11, m, n, i, is, t, tok, en⟩ = q := ⟨_, rfl⟩
    rw [hq] at HQ ⊢
    clear hq hk hown
    unfold Sd.v Sd.cells
    dsimp only
    go_enter Tryz.func18, Tryz.ntmps18
    have fM := HM.out.fa
    go_wp2_with fail
    all_goals clear fM
    refine nxt HM fun w0 M => ?_
    clear HM; have HM := M; clear M
    obtain ⟨C, hC, hS⟩ := (HM.out.pick (r := bytR (.slice none 0 0) []) (by with_reducible repeat first | exact ph | apply pt)).step
    refine (bodyNum_any w0 none 0 [] 11 (by decide) (by decide) hC).mono ?_
    rintro e w1 ⟨v1, rfl, hU⟩
    rw [List.nil_append] at hU
    obtain ⟨l1, hl1⟩ : ∃ x, numL 11 = x := ⟨_, rfl⟩
    have HL1 := Lib.hid (show numL 11 = l1 ∧ l1.length ≤ 1000 from ⟨hl1, by rw [← hl1]; have := numL_len 11; omega⟩)
    rw [hl1] at hU
    obtain ⟨a1, c1, rfl⟩ : ∃ a c, v1 = .slice a l1.length c := let ⟨_, h, _⟩ := hU; bytR.len h
    replace HM := Lib.hid (hS _ _ hU)
    clear hU hS hC hl1
    clear C
    have fM := HM.out.fa
    go_wp2_with fail
    all_goals clear fM
    have hlt : m ≤ 2147483647 := by have := HG.out; omega
    obtain ⟨C, hC, hS⟩ := (HM.out.pick (r := bytR (.slice a1 l1.length c1) l1) (by with_reducible repeat first | exact ph | apply pt)).step
    have HPL := Lib.hid (numL_len m)
    refine (bodyNum_any _ a1 c1 l1 m (by omega) (by have := HL1.out.2; omega) hC).mono ?_
    rintro e w2 ⟨v2, rfl, hU⟩
    obtain ⟨l2, hl2⟩ : ∃ x, l1 ++ numL m = x := ⟨_, rfl⟩
    have HL2 := Lib.hid (show l1 ++ numL m = l2 ∧ l2.length ≤ 1000 * 2 from ⟨hl2, by rw [← hl2, List.length_append]; have := HL1.out.2; have := HPL.out; omega⟩)
    rw [hl2] at hU
    obtain ⟨a2, c2, rfl⟩ : ∃ a c, v2 = .slice a l2.length c := let ⟨_, h, _⟩ := hU; bytR.len h
    replace HM := Lib.hid (hS _ _ hU)
    clear hU hS hC hl2 HPL
    clear C
    clear hlt
    have fM := HM.out.fa
    go_wp2_with fail
    all_goals clear fM
    refine (rtruL_any _ is).mono ?_
    rintro e wT ⟨vT, rfl, hU⟩
    obtain ⟨hbT, hET⟩ := hU.byt
    have HBT := Lib.hid hbT
    replace HM := Lib.hid (HM.out.ext hET)
    obtain ⟨lT, hlT⟩ : ∃ x, truL is = x := ⟨_, rfl⟩
    have HLT := Lib.hid (show truL is = lT ∧ lT.length ≤ 900 from ⟨hlT, by rw [← hlT]; cases is <;> decide⟩)
    rw [hlT] at HBT
    obtain ⟨aT, cT, rfl⟩ := HBT.out.len
    clear hU hbT hET hlT
    go_wp2_with (at_builtin; refine standing ?_)
    replace HM := Lib.hid (HM.out.pick (r := bytR (.slice a2 l2.length c2) l2) (by with_reducible repeat first | exact ph | apply pt))
    obtain ⟨v3, w3, hr, hm9⟩ := Mem.bytAdd 30 HM.out _ _ HBT.out (by have := HLT.out.2; have := HL2.out.2; omega)
    obtain ⟨l3, hl3⟩ : ∃ x, l2 ++ lT = x := ⟨_, rfl⟩
    have HL3 := Lib.hid (show l2 ++ truL is = l3 ∧ l3.length ≤ 1000 * 3 from ⟨by rw [HLT.out.1]; exact hl3, by rw [← hl3, List.length_append]; have := HL2.out.2; have := HLT.out.2; omega⟩)
    rw [hl3] at hm9
    replace HM := Lib.hid hm9
    obtain ⟨a3, c3, rfl⟩ : ∃ a c, v3 = .slice a l3.length c := by
      obtain ⟨A, hb, -⟩ := hm9.byt
      exact hb.len
    refine ⟨?_⟩
    refine wpList_append_ran rfl _ _ hr rfl rfl rfl ?_
    clear hr hm9 hl3 HBT HLT
    have fM := HM.out.fa
    go_wp2_with fail
    all_goals clear fM
    go_ret
    refine ⟨_, rfl, ?_⟩
    have hq : q = l3 := by rw [HQ.out]; rw [HL1.out.1]; rw [HL2.out.1]; rw [HL3.out.1]
    rw [hq]
    exact (HM.out.pick (r := bytR (.slice a3 l3.length c3) l3) (by with_reducible repeat first | exact ph | apply pt)).upd
  · skip
    have HQ := Lib.hid (show bodyL ⟨12, m, n, i, is, t, tok, en⟩ = numL 12 ++ numL n by simp [bodyL, partsOf, Part.lay, partsOf])
    obtain ⟨q, hq⟩ : ∃ q, bodyL ⟨12, m, n, i, is, t, tok, en⟩ = q := ⟨_, rfl⟩
    rw [hq] at HQ ⊢
    clear hq hk hown
    unfold Sd.v Sd.cells
    dsimp only
    go_enter Tryz.func18, Tryz.ntmps18
    have fM := HM.out.fa
    go_wp2_with fail
    all_goals clear fM
    refine nxt HM fun w0 M => ?_
    clear HM; have HM := M; clear M
    obtain ⟨C, hC, hS⟩ := (HM.out.pick (r := bytR (.slice none 0 0) []) (by with_reducible repeat first | exact ph | apply pt)).step
    refine (bodyNum_any w0 none 0 [] 12 (by decide) (by decide) hC).mono ?_
    rintro e w1 ⟨v1, rfl, hU⟩
    rw [List.nil_append] at hU
    obtain ⟨l1, hl1⟩ : ∃ x, numL 12 = x := ⟨_, rfl⟩
    have HL1 := Lib.hid (show numL 12 = l1 ∧ l1.length ≤ 1000 from ⟨hl1, by rw [← hl1]; have := numL_len 12; omega⟩)
    rw [hl1] at hU
    obtain ⟨a1, c1, rfl⟩ : ∃ a c, v1 = .slice a l1.length c := let ⟨_, h, _⟩ := hU; bytR.len h
    replace HM := Lib.hid (hS _ _ hU)
    clear hU hS hC hl1
    clear C
    have fM := HM.out.fa
    go_wp2_with fail
    all_goals clear fM
    have hlt : n ≤ 2147483647 := by have := HG.out; omega
    obtain ⟨C, hC, hS⟩ := (HM.out.pick (r := bytR (.slice a1 l1.length c1) l1) (by with_reducible repeat first | exact ph | apply pt)).step
    have HPL := Lib.hid (numL_len n)
    refine (bodyNum_any _ a1 c1 l1 n (by omega) (by have := HL1.out.2; omega) hC).mono ?_
    rintro e w2 ⟨v2, rfl, hU⟩
    obtain ⟨l2, hl2⟩ : ∃ x, l1 ++ numL n = x := ⟨_, rfl⟩
    have HL2 := Lib.hid (show l1 ++ numL n = l2 ∧ l2.length ≤ 1000 * 2 from ⟨hl2, by rw [← hl2, List.length_append]; have := HL1.out.2; have := HPL.out; omega⟩)
    rw [hl2] at hU
    obtain ⟨a2, c2, rfl⟩ : ∃ a c, v2 = .slice a l2.length c := let ⟨_, h, _⟩ := hU; bytR.len h
    replace HM := Lib.hid (hS _ _ hU)
    clear hU hS hC hl2 HPL
    clear C
    clear hlt
    have fM := HM.out.fa
    go_wp2_with fail
    all_goals clear fM
    go_ret
    refine ⟨_, rfl, ?_⟩
    have hq : q = l2 := by rw [HQ.out]; rw [HL1.out.1]; rw [HL2.out.1]
    rw [hq]
    exact (HM.out.pick (r := bytR (.slice a2 l2.length c2) l2) (by with_reducible repeat first | exact ph | apply pt)).upd
end Go.Proofs.YtcfgnbbiljohjaaGreatDoor
end
section
/- The document's bytes of what is said, and how many they are. Condition: it may be said. -/
set_option linter.unusedVariables false
set_option linter.unusedSimpArgs false
set_option maxHeartbeats 4000000
set_option maxRecDepth 10000
namespace Go.Proofs.YtcfgnbbiljohjaaGreatDoor
open Go.RowKit
theorem body_len (s : Sd) (hb : sdB s = true) : (bodyL s).length ≤ 470 := by
  rw [← right_eq] at hb
  simp only [Bool.and_eq_true, decide_eq_true_eq] at hb
  obtain ⟨⟨⟨hk, -⟩, hbd⟩, hown⟩ := hb
  obtain ⟨g1, g2, g3, g4, g5, g6, g7⟩ := (bnd_iff s).1 hbd
  obtain ⟨k, m, n, i, is, t, tok, en⟩ := s
  dsimp only at hk g7
  have n1 := (numL_len m.toNat).2
  have n2 := (numL_len n.toNat).2
  have n3 := (numL_len i.toNat).2
  have n4 := (numL_len tok.length).2
  have n5 := (numL_len t.length).2
  have n6 := (numL_len en.kind.toNat).2
  have n7 := (numL_len en.member.toNat).2
  have n8 := (numL_len en.number.toNat).2
  have n9 := (numL_len en.text.length).2
  have n10 := (numL_len k.toNat).2
  have hT : (truL is).length = 1 := by cases is <;> rfl
  clear hbd g1 g2 g3 g4 g5 g6
  have h4 : k = 4 → t.length ≤ 200 := by
    intro h
    subst h
    have : 1 ≤ n ∧ chk t = 0 := by simpa [ownB] using hown
    exact chk_200 this.2
  have h9 : k = 9 → en.kind = 4 → en.text.length ≤ 200 := by
    intro h h2
    subst h
    have hen : enB en = true ∧ ¬ en.kind = 1 := by simpa [ownB] using hown
    exact ((enB_bounds hen.2 hen.1).2.2 h2).2.2
  clear hown
  unfold bodyL
  dsimp only
  obtain rfl | rfl | rfl | rfl | rfl | rfl | rfl | rfl | rfl | rfl | rfl | rfl : k = 1 ∨ k = 2 ∨ k = 3 ∨ k = 4 ∨ k = 5 ∨ k = 6 ∨ k = 7 ∨ k = 8 ∨ k = 9 ∨ k = 10 ∨ k = 11 ∨ k = 12 := by omega
  all_goals
    simp only [List.length_append]
    simp [partsOf, Part.lay, txtL]
    try split
    all_goals (simp_all; try omega)
theorem frame_len {l : List UInt8} (h : l.length ≤ 470) : (frameL l).length ≤ 484 := by
  have := (numL_len (l.length + 4)).2
  have := sealL_len l
  unfold frameL
  rw [List.length_append]
  omega
theorem docRaw_any (w : World) (s : Sd) (hb : sdB s = true) (hl : s.text.length ≤ 300 ∧ s.e.text.length ≤ 300 ∧ s.token.length ≤ 300) :
    Calls Tryz.prog 15 #[s.v] w fun e w' => ∃ v', e = .returned v' ∧ Upd NoB w w' (bytR v' (frameL (bodyL s))) := by
  have HM := Lib.hid (Mem.start0 w)
  have HBL := Lib.hid (body_len s hb)
  have HB := Lib.hid hb
  have HL := Lib.hid hl
  have HV := Lib.hid (show s.v = .agg s.cells.toArray from rfl)
  clear hb hl
  unfold Sd.v Sd.cells
  go_enter Tryz.func15, Tryz.ntmps15
  have fM := HM.out.fa
  go_wp2_with fail
  all_goals clear fM
  refine nxt HM fun w1 M => ?_
  clear HM; have HM := M; clear M
  refine (docBody_any w1 s HB.out HL.out).mono ?_
  rintro e w2 ⟨v2, rfl, hU⟩
  obtain ⟨hb2, hE2⟩ := hU.byt
  have HB2 := Lib.hid hb2
  replace HM := Lib.hid (HM.out.ext hE2)
  clear hU hb2 hE2
  have fM := HM.out.fa
  go_wp2_with fail
  all_goals clear fM
  refine (rframe_any w2 v2 _ HB2.out (by have := HBL.out; omega)).mono ?_
  rintro e w3 ⟨v3, rfl, hU⟩
  obtain ⟨F2, u1, u2, u3⟩ := hU
  replace HM := Lib.hid (HM.out.new (r := bytR v3 (frameL (bodyL s))) (G := F2) u2 u1 (fun k hk => (u3 k hk).elim (fun h => (noB _ h).elim) id))
  clear u1 u2 u3
  clear F2
  have fM := HM.out.fa
  go_wp2_with fail
  all_goals clear fM
  go_ret
  exact ⟨_, rfl, (HM.out.pick (r := bytR v3 (frameL (bodyL s))) (by with_reducible repeat first | exact ph | apply pt)).upd⟩
end Go.Proofs.YtcfgnbbiljohjaaGreatDoor
end
section
/- FramesRaws: the walk. Condition: the tables read as they are laid; what is said fits the machine. -/
set_option linter.unusedVariables false
set_option linter.unusedSimpArgs false
set_option maxHeartbeats 4000000
set_option maxRecDepth 10000
namespace Go.Proofs.YtcfgnbbiljohjaaGreatDoor
open Go.RowKit
def longB (s : Sd) : Bool := decide (300 < s.text.length) || decide (300 < s.token.length) || decide (300 < s.e.text.length)
theorem lawLong_any (w : World) (s : Sd) : Calls Tryz.prog 9 #[s.v] w fun e w' => e = .returned (.bool (longB s)) ∧ Ext w w' := by
  obtain ⟨q, hq⟩ : ∃ q, longB s = q := ⟨_, rfl⟩
  rw [hq]
  have HQ := Lib.hid hq
  clear hq
  have HM := Lib.hid (Mem.start0 w)
  have HV := Lib.hid (show s.v = .agg s.cells.toArray from rfl)
  have z1 : (bs s.text).size = s.text.length := bs_size _
  have z2 : (bs s.token).size = s.token.length := bs_size _
  have z3 : (bs s.e.text).size = s.e.text.length := bs_size _
  unfold Sd.v Sd.cells
  by_cases h1 : 300 < s.text.length
  · obtain rfl : q = true := by rw [← HQ.out]; unfold longB; rw [decide_eq_true h1]; rfl
    have d1 : (300 : Int) < s.text.length := by omega
    clear h1
    go_enter Tryz.func9, Tryz.ntmps9
    have fM := HM.out.fa
    go_wp2_with fail
    all_goals clear fM
    refine nxt HM fun w1 M => ?_
    clear HM; have HM := M; clear M
    go_ret
    exact ⟨rfl, HM.out.extTo⟩
  have e1 : ¬ (300 : Int) < s.text.length := by omega
  by_cases h2 : 300 < s.token.length
  · obtain rfl : q = true := by rw [← HQ.out]; unfold longB; rw [decide_eq_true h2]; simp
    have d1 : (300 : Int) < s.token.length := by omega
    clear h1 h2
    go_enter Tryz.func9, Tryz.ntmps9
    have fM := HM.out.fa
    go_wp2_with fail
    all_goals clear fM
    refine nxt HM fun w1 M => ?_
    clear HM; have HM := M; clear M
    go_ret
    exact ⟨rfl, HM.out.extTo⟩
  have e2 : ¬ (300 : Int) < s.token.length := by omega
  by_cases h3 : 300 < s.e.text.length
  · obtain rfl : q = true := by rw [← HQ.out]; unfold longB; rw [decide_eq_true h3]; simp
    have d1 : (300 : Int) < s.e.text.length := by omega
    clear h1 h2 h3
    go_enter Tryz.func9, Tryz.ntmps9
    have fM := HM.out.fa
    go_wp2_with fail
    all_goals clear fM
    refine nxt HM fun w1 M => ?_
    clear HM; have HM := M; clear M
    go_ret
    exact ⟨rfl, HM.out.extTo⟩
  have e3 : ¬ (300 : Int) < s.e.text.length := by omega
  obtain rfl : q = false := by rw [← HQ.out]; unfold longB; rw [decide_eq_false h1, decide_eq_false h2, decide_eq_false h3]; rfl
  clear h1 h2 h3
  go_enter Tryz.func9, Tryz.ntmps9
  have fM := HM.out.fa
  go_wp2_with fail
  all_goals clear fM
  refine nxt HM fun w1 M => ?_
  clear HM; have HM := M; clear M
  go_ret
  exact ⟨rfl, HM.out.extTo⟩
theorem raws_walk (W : World) (s : Sd) (hs : OkS s) (hk : I64 s.kind) (hT : Tabs W) : Calls Tryz.prog 3 #[s.v] W fun e w' => e = .returned (.bool true) ∧ Ext W w' := by
  have HM := Lib.hid (Mem.start0 W)
  have HS := Lib.hid hs
  have HK := Lib.hid hk
  have HV := Lib.hid (show s.v = .agg s.cells.toArray from rfl)
  clear hs hk
  unfold Sd.v Sd.cells
  go_enter Tryz.func3, Tryz.ntmps3
  have fM := HM.out.fa
  go_wp2_with fail
  all_goals clear fM
  refine nxt HM fun w1 M => ?_
  clear HM; have HM := M; clear M
  refine (lawLong_any w1 s).mono ?_
  rintro e w2 ⟨rfl, hE2⟩
  replace HM := Lib.hid (HM.out.ext hE2)
  clear hE2
  cases hlo : longB s
  case true =>
    clear hlo
    have fM := HM.out.fa
    go_wp2_with fail
    all_goals clear fM
    refine (works_any W w2 hT HM.out.extTo).mono ?_
    rintro e w3 ⟨rfl, hE2⟩
    replace HM := Lib.hid (HM.out.ext hE2)
    clear hE2
    have fM := HM.out.fa
    go_wp2_with fail
    all_goals clear fM
    go_ret
    exact ⟨rfl, HM.out.extTo⟩
  have hl : s.text.length ≤ 300 ∧ s.e.text.length ≤ 300 ∧ s.token.length ≤ 300 := by
    unfold longB at hlo
    simp only [Bool.or_eq_false_iff, decide_eq_false_iff_not] at hlo
    omega
  have HL := Lib.hid hl
  clear hlo hl
  cases hb : sdB s
  case false =>
    have HB := Lib.hid hb
    have HCI := Lib.hid (show chkI s = 2 by unfold chkI; rw [hb]; rfl)
    clear hb
    have fM := HM.out.fa
    go_wp2_with fail
    all_goals clear fM
    refine (raw_bad W w2 hT HM.out.extTo s HS.out HK.out HB.out).mono ?_
    rintro e w3 ⟨rfl, hE2⟩
    replace HM := Lib.hid (HM.out.ext hE2)
    clear hE2
    have fM := HM.out.fa
    go_wp2_with fail
    all_goals clear fM
    refine (check_any W w3 hT HM.out.extTo s HS.out HK.out).mono ?_
    rintro e w4 ⟨rfl, hE2⟩
    rw [HCI.out]
    replace HM := Lib.hid (HM.out.ext hE2)
    clear hE2
    have fM := HM.out.fa
    go_wp2_with fail
    all_goals clear fM
    refine (docRight_any W w4 hT HM.out.extTo s (by have := HL.out; omega)).mono ?_
    rintro e w5 ⟨rfl, hE2⟩
    rw [HB.out]
    replace HM := Lib.hid (HM.out.ext hE2)
    clear hE2
    have fM := HM.out.fa
    go_wp2_with fail
    all_goals clear fM
    refine (num_any _ _).mono ?_
    rintro r wq ⟨rfl, hwq⟩
    rw [hwq]
    clear hwq wq
    have fM := HM.out.fa
    go_wp2_with fail
    all_goals clear fM
    refine (num_any _ _).mono ?_
    rintro r wq ⟨rfl, hwq⟩
    rw [hwq]
    clear hwq wq
    have fM := HM.out.fa
    go_wp2_with fail
    all_goals clear fM
    refine (works_any W w5 hT HM.out.extTo).mono ?_
    rintro e w6 ⟨rfl, hE2⟩
    replace HM := Lib.hid (HM.out.ext hE2)
    clear hE2
    have fM := HM.out.fa
    go_wp2_with fail
    all_goals clear fM
    go_ret
    exact ⟨rfl, HM.out.extTo⟩
  case true =>
    have HB := Lib.hid hb
    have HCI := Lib.hid (show chkI s = 0 by unfold chkI; rw [hb]; rfl)
    clear hb
    have fM := HM.out.fa
    go_wp2_with fail
    all_goals clear fM
    refine (raw_ok W w2 hT HM.out.extTo s HS.out HB.out).mono ?_
    rintro e w3 ⟨v, rfl, hU⟩
    obtain ⟨hb3, hE2⟩ := hU.byt
    have HB3 := Lib.hid hb3
    obtain ⟨fl, hfl⟩ : ∃ x, frameL (bodyL s) = x := ⟨_, rfl⟩
    have HFL := Lib.hid (show frameL (bodyL s) = fl ∧ fl.length ≤ 484 from ⟨hfl, by rw [← hfl]; exact frame_len (body_len s HB.out)⟩)
    rw [hfl] at HB3
    obtain ⟨a3, c3, rfl⟩ := HB3.out.len
    replace HM := Lib.hid (HM.out.ext hE2)
    clear hE2 hU hb3 hfl
    have fM := HM.out.fa
    go_wp2_with fail
    all_goals clear fM
    refine (check_any W w3 hT HM.out.extTo s HS.out HK.out).mono ?_
    rintro e w4 ⟨rfl, hE2⟩
    rw [HCI.out]
    replace HM := Lib.hid (HM.out.ext hE2)
    replace HB3 := Lib.hid (HB3.out.ext hE2)
    clear hE2
    have fM := HM.out.fa
    go_wp2_with fail
    all_goals clear fM
    refine (docRight_any W w4 hT HM.out.extTo s (by have := HL.out; omega)).mono ?_
    rintro e w5 ⟨rfl, hE2⟩
    rw [HB.out]
    replace HM := Lib.hid (HM.out.ext hE2)
    replace HB3 := Lib.hid (HB3.out.ext hE2)
    clear hE2
    have fM := HM.out.fa
    go_wp2_with fail
    all_goals clear fM
    have hcv : ∀ y : ExtW w5, (convert 30 9 (.slice a3 fl.length c3)).run Tryz.prog y.w = .ok (.string (bs fl)) y.w := fun y => (HB3.out.ext y.h).str
    have hlen : (fl.length : Int) ≤ 500 := by have := HFL.out.2; omega
    have fM := HM.out.fa
    have hE0 : Keeps NoB w5 w5.drew := (Keeps.refl _ _).drew
    refine wp_region_plan [(0, 0), (1, 1), (3, 2), (2, 3), (2, 4), (0, 5), (0, 6), (0, 7), (0, 8), (0, 9), (0, 10), (0, 11), (0, 12), (0, 14)] [1] [3, 4, 13, 15, 16, 17, 18, 19, 20, 21, 22] [13, 15, 16, 17, 18, 19, 20, 21, 22] (ClsE w5) (by kernel_rfl) (by kernel_rfl) (plan3 [0, 1, 0, 4, 12, 31, 63, 127, 255, 511, 1023, 2047, 4095, 8191, 4095, 32767, 65535, 131071, 262143, 524287, 1048575, 2097151, 4194303] (by kernel_rfl) rfl (by kernel_rfl)) rfl rfl (ClsE.of hE0) (fun _ _ _ d _ h => by cases d <;> exact h) ?_; simp only [planL, nL]
    refine pM _ rfl rfl ?_; simp only [nP, nE]
    refine pL (v := ?_) rfl (fun W => ?_) ?_; rotate_left; (go_simp <;> with_reducible rfl); simp only [nP]
    refine pX (v := ?_) rfl ?_ ?_; rotate_left; (go_simp <;> with_reducible rfl); simp only [nP]
    refine plan_does rfl (fun K hK => ?_)
    go_wp2_with fail
    refine (docRaw_any _ s HB.out HL.out).mono ?_
    rintro e w6 ⟨v6, rfl, hU⟩
    obtain ⟨hb6, hE1⟩ := hU.byt
    have hE2 := hE0.ext hE1
    rw [HFL.out.1] at hb6
    have hcv2 := hb6.str
    replace HM := Lib.hid (HM.out.ext hE2)
    clear hU hb6 hE1
    refine hK _ _ ⟨ClsE.of (by assumption), ?_⟩; clear hK K; try simp only [nP]
    refine plan_does rfl (fun K hK => ?_)
    go_wp2_with fail
    refine ⟨ClsE.of (by repeat (first | assumption | exact Keeps.refl _ _ | refine Keeps.alloc ?_ _ | refine Keeps.setOne ?_ _ _ | refine Keeps.setCell ?_ _ _ (.inl (by first | rfl | exact .inl rfl | exact .inr rfl | omega)) | refine Keeps.drew ?_)), ?_⟩; try simp only [nP]
    refine pR (v := ?_) rfl (fun W => ?_) ?_; rotate_left; (go_simp <;> with_reducible rfl); simp only [nP]
    refine pM _ rfl rfl ?_; simp only [nP, nE]
    (first | (refine plan_skip rfl ?_; simp only [nP]) | (refine pM _ rfl rfl ?_; simp only [nP, nE]))
    iterate 2 ((first | (refine plan_skip rfl ?_; simp only [nP]) | (refine pR (v := ?_) rfl (fun W => ?_) ?_; rotate_left; (go_simp <;> with_reducible rfl); simp only [nP])))
    refine pR (v := ?_) rfl (fun W => ?_) ?_; rotate_left; (go_simp <;> with_reducible rfl); simp only [nP]
    refine pM _ rfl rfl ?_; simp only [nP, nE]
    iterate 2 ((first | (refine plan_skip rfl ?_; simp only [nP]) | (refine pM _ rfl rfl ?_; simp only [nP, nE])))
    refine plan_nil ?_; simp only [tailL, List.filterMap_cons, List.filterMap_nil, nL]; change wpList _ _ _ (_ :: _ :: _ :: _ :: _ :: _ :: _ :: _ :: _ :: []) _ _
    clear fM
    have fM := HM.out.fa
    go_wp2_with fail
    all_goals clear fM
    refine (num_any _ _).mono ?_
    rintro r wq ⟨rfl, hwq⟩
    rw [hwq]
    clear hwq wq
    have fM := HM.out.fa
    go_wp2_with fail
    all_goals clear fM
    refine (num_any _ _).mono ?_
    rintro r wq ⟨rfl, hwq⟩
    rw [hwq]
    clear hwq wq
    have fM := HM.out.fa
    go_wp2_with fail
    all_goals clear fM
    refine (works_any W w6 hT HM.out.extTo).mono ?_
    rintro e w7 ⟨rfl, hE3⟩
    replace HM := Lib.hid (HM.out.ext hE3)
    clear hE3
    have fM := HM.out.fa
    go_wp2_with fail
    all_goals clear fM
    go_ret
    exact ⟨rfl, HM.out.extTo⟩
end Go.Proofs.YtcfgnbbiljohjaaGreatDoor
end
section
/- What is said as an argument, opened. No condition. -/
set_option linter.unusedVariables false
set_option linter.unusedSimpArgs false
set_option maxRecDepth 100000
namespace Go.Proofs.YtcfgnbbiljohjaaGreatDoor
open Go.RowKit Go.ChangeShapes Go.WideShapes
theorem cellsI : Tryz.prog.cellsOf 3 = 1 := by kernel_rfl
theorem cellsI64 : Tryz.prog.cellsOf 2 = 1 := by kernel_rfl
theorem cellsS : Tryz.prog.cellsOf 9 = 1 := by kernel_rfl
theorem cellsBo : Tryz.prog.cellsOf 4 = 1 := by kernel_rfl
theorem cellsEK : Tryz.prog.cellsOf 23 = 1 := by kernel_rfl
theorem cellsSK : Tryz.prog.cellsOf 22 = 1 := by kernel_rfl
theorem cellsEn : Tryz.prog.cellsOf 25 = 4 := by kernel_rfl
theorem cellsSd : Tryz.prog.cellsOf 27 = 11 := by kernel_rfl
theorem i64_of {n : Int} (h : (Lit.int .i64 n).wf = true) : I64 n := by
  unfold I64
  simp [Lit.wf, IntKind.min, IntKind.max, IntKind.signed, IntKind.bits] at h
  omega
theorem list4 {cs : List Value} (h : cs.length = 4) : ∃ a b c d, cs = [a, b, c, d] := by
  match cs, h with
  | [a, b, c, d], _ => exact ⟨a, b, c, d, rfl⟩
theorem list11 {cs : List Value} (h : cs.length = 11) : ∃ a b c d e f g i j k l, cs = [a, b, c, d, e, f, g, i, j, k, l] := by
  match cs, h with
  | [a, b, c, d, e, f, g, i, j, k, l], _ => exact ⟨a, b, c, d, e, f, g, i, j, k, l, rfl⟩
section
variable {H : Type} {enc : TypeId × Value → H} {w : World}
theorem rd_en : Rd enc Tryz.prog w 25 fun cs (e : En) => cs = e.cells ∧ I64 e.kind ∧ e.text.length ≤ 9223372036854775807 := fun fuel cs x h => by
  obtain ⟨hl, hf⟩ := rd_field Tryz.underlying25 h
  rw [cellsEn] at hl
  obtain ⟨c0, c1, c2, c3, rfl⟩ := list4 hl
  obtain ⟨k0, h0, g0⟩ := hf 0 _ 0 1 rfl rfl cellsEK (rd_int Tryz.underlying23)
  obtain ⟨k1, h1, g1⟩ := hf 1 _ 1 1 rfl rfl cellsI (rd_int Tryz.underlying3)
  obtain ⟨k2, h2, g2⟩ := hf 2 _ 2 1 rfl rfl cellsI64 (rd_int Tryz.underlying2)
  obtain ⟨l, h3, g3⟩ := hf 3 _ 3 1 rfl rfl cellsS (rd_string Tryz.underlying9)
  simp at h0 h1 h2 h3
  exact ⟨⟨k0, k1, k2, l⟩, by rw [h0, h1, h2, h3]; rfl, i64_of g0, by omega⟩
theorem rd_sd : Rd enc Tryz.prog w 27 fun cs (x : Sd) => cs = x.cells ∧ OkS x ∧ I64 x.kind := fun fuel cs x h => by
  obtain ⟨hl, hf⟩ := rd_field Tryz.underlying27 h
  rw [cellsSd] at hl
  obtain ⟨c0, c1, c2, c3, c4, c5, c6, c7, c8, c9, c10, rfl⟩ := list11 hl
  obtain ⟨k0, h0, g0⟩ := hf 0 _ 0 1 rfl rfl cellsSK (rd_int Tryz.underlying22)
  obtain ⟨k1, h1, g1⟩ := hf 1 _ 1 1 rfl rfl cellsI (rd_int Tryz.underlying3)
  obtain ⟨k2, h2, g2⟩ := hf 2 _ 2 1 rfl rfl cellsI64 (rd_int Tryz.underlying2)
  obtain ⟨k3, h3, g3⟩ := hf 3 _ 3 1 rfl rfl cellsI64 (rd_int Tryz.underlying2)
  obtain ⟨b4, h4⟩ := hf 4 _ 4 1 rfl rfl cellsBo (rd_bool Tryz.underlying4)
  obtain ⟨l5, h5, g5⟩ := hf 5 _ 5 1 rfl rfl cellsS (rd_string Tryz.underlying9)
  obtain ⟨l6, h6, g6⟩ := hf 6 _ 6 1 rfl rfl cellsS (rd_string Tryz.underlying9)
  obtain ⟨e, h7, g7, g8⟩ := hf 7 _ 7 4 rfl rfl cellsEn rd_en
  simp [En.cells] at h0 h1 h2 h3 h4 h5 h6 h7
  obtain ⟨h7, h8, h9, h10⟩ := h7
  exact ⟨⟨k0, k1, k2, k3, b4, l5, l6, e⟩, by rw [h0, h1, h2, h3, h4, h5, h6, h7, h8, h9, h10], ⟨g7, by dsimp only; omega, by dsimp only; omega, g8⟩, i64_of g0⟩
theorem open_sd {v : Value} {d : DataW H} {p : List MemPlace} {b : Nat} (hv : Value.okWide Tryz.prog w .any b 27 v) (h : DataW.Trod enc Tryz.prog w 0 (fun _ => true) true 27 v d p) :
    ∃ x : Sd, v = x.v ∧ OkS x ∧ I64 x.kind := by
  obtain ⟨fuel, hf⟩ := h
  obtain ⟨x, h1, h2, h3⟩ := rd_sd fuel _ _ hf
  obtain ⟨cs, rfl, -⟩ := okWide_struct Tryz.underlying27 hv
  refine ⟨x, ?_, h2, h3⟩
  have h5 : cs.toList = x.cells := h1
  obtain ⟨l⟩ := cs
  simp only at h5
  rw [h5]
  rfl
end
end Go.Proofs.YtcfgnbbiljohjaaGreatDoor
end
section
/- The document's reader of what is said: numbers, texts. Condition: its bytes lie as 'RdV' says. -/
set_option linter.unusedVariables false
set_option linter.unusedSimpArgs false
set_option maxHeartbeats 4000000
set_option maxRecDepth 10000
namespace Go.Proofs.YtcfgnbbiljohjaaGreatDoor
open Go.RowKit
theorem docNum_any {A : Nat → Prop} (w : World) (r : Rdr) (x : Value) (g : Int) (hl : r.b.length ≤ 70368744177664) (h : RdV A w r x) (hA : ∀ k, A k → k < w.heap.size) :
    Calls Tryz.prog 41 #[x, .int .i64 g] w fun e w' => (∃ y, e = .returned (.tuple #[y, .int .i64 ((r.num g).2.1 : Int)]) ∧ RdV A w' (r.num g).1 y) ∧ Ext w w' := by
  have HM := Lib.hid (Mem.start0 w)
  have HL := Lib.hid hl
  have HA := Lib.hid hA
  obtain ⟨a, c, rfl, hby⟩ := h
  have HB := Lib.hid hby
  clear hl hA hby
  go_enter Tryz.func41, Tryz.ntmps41
  have fM := HM.out.fa
  go_wp2_with fail
  all_goals clear fM
  refine nxt HM fun w1 M => ?_
  clear HM; have HM := M; clear M
  have he1 := HM.out.extTo
  refine (rvnum_any w1 r _ g HL.out ⟨a, c, rfl, HB.out.ext he1⟩ (fun k hk => Nat.lt_of_lt_of_le (HA.out k hk) he1.size)).mono ?_
  rintro e w2 ⟨⟨y, rfl, hy⟩, hE⟩
  obtain ⟨a2, c2, rfl, hb2⟩ := hy
  have HB2 := Lib.hid hb2
  obtain ⟨⟨r2, n2, no2⟩, hq⟩ : ∃ q, r.num g = q := ⟨_, rfl⟩
  have HQ := Lib.hid hq
  rw [hq] at HB2 ⊢
  dsimp only at HB2 ⊢
  clear hq hb2 he1
  replace HM := Lib.hid (HM.out.ext hE)
  have HE2 := Lib.hid HM.out.extTo
  clear hE
  have fM := HM.out.fa
  go_wp2_with fail
  all_goals clear fM
  refine nxt HM fun w3 M => ?_
  clear HM; have HM := M; clear M
  obtain ⟨Ahb, hb⟩ := HM.out.get (r := cellsR (w.heap.size + 1) 91 [.slice a2 r2.b.length c2, .int .i64 r2.e]) (by with_reducible repeat first | exact ph | apply pt)
  refine bodyPost_ret (results_ct Tryz.results41 _ rfl (run_loadVar_row w3 _ _ 91 _ (0, 0) _ hb.2 Tryz.underlying91 rfl (by kernel_rfl))) rfl ?_
  rw [HQ.out]
  exact ⟨⟨_, rfl, a2, c2, rfl, HB2.out.swap HA.out HE2.out HM.out.extTo⟩, HM.out.extTo⟩
theorem docTxt_any {A : Nat → Prop} (w : World) (r : Rdr) (x : Value) (hl : r.b.length ≤ 70368744177664) (h : RdV A w r x) (hA : ∀ k, A k → k < w.heap.size) :
    Calls Tryz.prog 43 #[x] w fun e w' => (∃ y, e = .returned (.tuple #[y, .string (bs (r.txt 200).2.1)]) ∧ RdV A w' (r.txt 200).1 y) ∧ Ext w w' := by
  have HM := Lib.hid (Mem.start0 w)
  have HL := Lib.hid hl
  have HA := Lib.hid hA
  obtain ⟨a, c, rfl, hby⟩ := h
  have HB := Lib.hid hby
  clear hl hA hby
  go_enter Tryz.func43, Tryz.ntmps43
  have fM := HM.out.fa
  go_wp2_with fail
  all_goals clear fM
  refine nxt HM fun w1 M => ?_
  clear HM; have HM := M; clear M
  have he1 := HM.out.extTo
  refine (rvtxt_any w1 r _ 200 HL.out ⟨a, c, rfl, HB.out.ext he1⟩ (fun k hk => Nat.lt_of_lt_of_le (HA.out k hk) he1.size)).mono ?_
  rintro e w2 ⟨⟨y, rfl, hy⟩, hE⟩
  obtain ⟨a2, c2, rfl, hb2⟩ := hy
  have HB2 := Lib.hid hb2
  obtain ⟨⟨r2, n2, no2⟩, hq⟩ : ∃ q, r.txt 200 = q := ⟨_, rfl⟩
  have HQ := Lib.hid hq
  rw [hq] at HB2 ⊢
  dsimp only at HB2 ⊢
  clear hq hb2 he1
  replace HM := Lib.hid (HM.out.ext hE)
  have HE2 := Lib.hid HM.out.extTo
  clear hE
  have fM := HM.out.fa
  go_wp2_with fail
  all_goals clear fM
  refine nxt HM fun w3 M => ?_
  clear HM; have HM := M; clear M
  obtain ⟨Ahb, hb⟩ := HM.out.get (r := cellsR (w.heap.size + 1) 91 [.slice a2 r2.b.length c2, .int .i64 r2.e]) (by with_reducible repeat first | exact ph | apply pt)
  refine bodyPost_ret (results_ct Tryz.results43 _ rfl (run_loadVar_row w3 _ _ 91 _ (0, 0) _ hb.2 Tryz.underlying91 rfl (by kernel_rfl))) rfl ?_
  rw [HQ.out]
  exact ⟨⟨_, rfl, a2, c2, rfl, HB2.out.swap HA.out HE2.out HM.out.extTo⟩, HM.out.extTo⟩
end Go.Proofs.YtcfgnbbiljohjaaGreatDoor
end
section
/- What was taken off a reader lays back: plain. -/
set_option linter.unusedVariables false
set_option linter.unusedSimpArgs false
set_option maxHeartbeats 1000000
namespace Go.Proofs.YtcfgnbbiljohjaaGreatDoor
open Go.RowKit
theorem Rdr.num_lay (r : Rdr) (g : Int) (hg : 0 ≤ g) (h : (r.num g).1.e = 0) : r.b = numL (r.num g).2.1 ++ (r.num g).1.b := by
  have he := (r.num_e g hg h).1
  unfold Rdr.num at h ⊢
  rw [if_neg (fun h => h he), if_neg (by omega)] at h ⊢
  split at h
  · rename_i hk
    rw [if_pos hk]
    dsimp only
    rw [← numL_take hk.1, List.take_append_drop]
  · exact absurd h (by decide)
theorem Rdr.txt_lay (r : Rdr) (g : Int) (hg : 0 ≤ g) (h : (r.txt g).1.e = 0) : r.b = txtL (r.txt g).2.1 ++ (r.txt g).1.b := by
  have h2 := r.num_e' g hg
  unfold Rdr.txt at h ⊢
  by_cases hn : (r.num g).2.2 ≠ 0
  · rw [if_pos hn] at h
    exact absurd h (by rw [← h2]; exact hn)
  · rw [if_neg hn] at h ⊢
    have hn0 : (r.num g).1.e = 0 := by rw [← h2]; simpa using hn
    have hl := r.num_lay g hg hn0
    split at h
    · rename_i hk
      rw [if_pos hk]
      dsimp only
      unfold txtL
      rw [List.length_take, Nat.min_eq_left hk, List.append_assoc, List.take_append_drop]
      exact hl
    · exact absurd h (by decide)
theorem Rdr.tru_lay (r : Rdr) (h : r.tru.1.e = 0) : r.b = truL r.tru.2.1 ++ r.tru.1.b := by
  unfold Rdr.tru at h ⊢
  by_cases he : r.e ≠ 0
  · rw [if_pos he] at h; exact absurd h he
  · rw [if_neg he] at h ⊢
    split at h
    · exact absurd h (by decide)
    · rename_i c l hc
      split at h
      · rename_i h1
        simp only [hc, h1, if_true]
        unfold truL
        have : c = 0 ∨ c = 1 := by
          have h2 : c.toNat = 0 ∨ c.toNat = 1 := by omega
          rcases h2 with h2 | h2
          · exact .inl (UInt8.toNat_inj.1 h2)
          · exact .inr (UInt8.toNat_inj.1 h2)
        rcases this with rfl | rfl <;> rfl
      · exact absurd h (by decide)
theorem Rdr.num_ok (r : Rdr) (g : Int) (h : (r.num g).1.e = 0) : r.e = 0 := by
  by_cases he : r.e = 0
  · exact he
  · rw [r.num_err g he] at h; exact h
/-- which part of what is said it is -/
def Part.slot : Part → Nat
  | .member => 0
  | .number _ => 1
  | .index => 2
  | .is => 3
  | .said => 4
  | .token => 5
  | .entry => 6
theorem Part.take_lay (p : Part) (r : Rdr) (s : Sd) (h : (p.take r s).1.e = 0) : r.b = p.lay (p.take r s).2 ++ (p.take r s).1.b := by
  cases p <;> unfold Part.take at h ⊢ <;> unfold Part.lay
  · simpa using r.num_lay 15 (by decide) h
  · simpa using r.num_lay 2147483647 (by decide) h
  · simpa using r.num_lay 2147483647 (by decide) h
  · exact r.tru_lay h
  · exact r.txt_lay 200 (by decide) h
  · exact r.txt_lay 200 (by decide) h
  · dsimp only at h ⊢
    obtain ⟨a, ha⟩ : ∃ a, r.num 4 = a := ⟨_, rfl⟩
    obtain ⟨b, hb⟩ : ∃ b, a.1.num 15 = b := ⟨_, rfl⟩
    obtain ⟨c, hc⟩ : ∃ c, b.1.num 2147483647 = c := ⟨_, rfl⟩
    obtain ⟨d, hd⟩ : ∃ d, c.1.txt 200 = d := ⟨_, rfl⟩
    have l1 := r.num_lay 4 (by decide)
    have l2 := a.1.num_lay 15 (by decide)
    have l3 := b.1.num_lay 2147483647 (by decide)
    have l4 := c.1.txt_lay 200 (by decide)
    have o2 := a.1.num_ok 15
    have o3 := b.1.num_ok 2147483647
    have o4 : (c.1.txt 200).1.e = 0 → c.1.e = 0 := fun h => by
      by_cases he : c.1.e = 0
      · exact he
      · exact absurd h (Rdr.txt_sticky 200 he)
    rw [ha] at h l1 ⊢
    rw [hb] at h l2 o2 ⊢
    rw [hc] at h l3 o3 ⊢
    rw [hd] at h l4 o4 ⊢
    by_cases h4 : (a.2.1 : Int) = 4
    · have h4' : a.2.1 = 4 := by omega
      rw [if_pos h4'] at h ⊢
      dsimp only at h ⊢
      rw [if_pos h4, l1 (o2 (o3 (o4 h))), l2 (o3 (o4 h)), l3 (o4 h), l4 h]
      simp
    · have h4' : ¬ a.2.1 = 4 := by omega
      rw [if_neg h4'] at h ⊢
      dsimp only at h ⊢
      rw [if_neg h4, l1 (o2 h), l2 h]
      simp
theorem Part.take_other (p q : Part) (r : Rdr) (s : Sd) (h : q.slot ≠ p.slot) : p.lay (q.take r s).2 = p.lay s := by
  cases p <;> cases q <;> first | exact absurd rfl h | rfl | (unfold Part.take; dsimp only; split <;> rfl)
theorem Part.take_kind (p : Part) (r : Rdr) (s : Sd) : (p.take r s).2.kind = s.kind := by
  cases p <;> first | rfl | (unfold Part.take; dsimp only; split <;> rfl)
theorem takeAll_keep (p : Part) : ∀ (ps : List Part) (r : Rdr) (s : Sd), (∀ q ∈ ps, q.slot ≠ p.slot) → p.lay (takeAll ps r s).2 = p.lay s
  | [], r, s, h => rfl
  | q :: ps, r, s, h => by
    rw [takeAll_cons, takeAll_keep p ps _ _ (fun x hx => h x (List.mem_cons_of_mem _ hx)), p.take_other q r s (h q (List.mem_cons_self ..))]
theorem takeAll_kind : ∀ (ps : List Part) (r : Rdr) (s : Sd), (takeAll ps r s).2.kind = s.kind
  | [], r, s => rfl
  | q :: ps, r, s => by rw [takeAll_cons, takeAll_kind ps, q.take_kind]
theorem takeAll_lay : ∀ (ps : List Part) (r : Rdr) (s : Sd), (ps.map Part.slot).Nodup → (takeAll ps r s).1.e = 0 → r.b = (ps.map fun p => p.lay (takeAll ps r s).2).flatten ++ (takeAll ps r s).1.b
  | [], r, s, hn, h => rfl
  | p :: ps, r, s, hn, h => by
    rw [takeAll_cons] at h ⊢
    rw [List.map_cons, List.nodup_cons] at hn
    have h1 : (p.take r s).1.e = 0 := by
      by_cases he : (p.take r s).1.e = 0
      · exact he
      · exact absurd h (takeAll_sticky _ _ he)
    rw [p.take_lay r s h1, List.map_cons, List.flatten_cons, takeAll_keep p ps _ _ (fun q hq e => hn.1 (by rw [← e]; exact List.mem_map_of_mem hq)), List.append_assoc, ← takeAll_lay ps _ _ hn.2 h]
theorem partsOf_nodup (k : Int) : (((partsOf k).getD []).map Part.slot).Nodup := by
  by_cases hk : 1 ≤ k ∧ k ≤ 12
  · obtain rfl | rfl | rfl | rfl | rfl | rfl | rfl | rfl | rfl | rfl | rfl | rfl : k = 1 ∨ k = 2 ∨ k = 3 ∨ k = 4 ∨ k = 5 ∨ k = 6 ∨ k = 7 ∨ k = 8 ∨ k = 9 ∨ k = 10 ∨ k = 11 ∨ k = 12 := by omega
    all_goals decide
  · have : partsOf k = none := by
      unfold partsOf
      simp only [show ¬ k = 1 by omega, show ¬ k = 2 by omega, show ¬ k = 3 by omega, show ¬ k = 4 by omega, show ¬ k = 5 by omega, show ¬ k = 6 by omega, show ¬ k = 7 by omega, show ¬ k = 8 by omega, show ¬ k = 9 by omega, show ¬ k = 10 by omega, show ¬ k = 11 by omega, show ¬ k = 12 by omega, if_false]
    rw [this]
    decide
/-- a body that says something is the body of what it says -/
theorem parse_back (b : List UInt8) (h : (parseL b).2 = 0) : bodyL (parseL b).1 = b ∧ sdB (parseL b).1 = true := by
  unfold parseL at h ⊢
  dsimp only at h ⊢
  split at h
  · rename_i hc
    rw [if_pos hc]
    dsimp only
    obtain ⟨h1, h2, h3, h4⟩ := hc
    refine ⟨?_, h4⟩
    obtain ⟨a, ha⟩ : ∃ a, (⟨b, 0⟩ : Rdr).num 12 = a := ⟨_, rfl⟩
    have hl := (⟨b, 0⟩ : Rdr).num_lay 12 (by decide)
    rw [ha] at h1 h2 h3 h4 hl ⊢
    have h5 : a.1.e = 0 := by
      by_cases he : a.1.e = 0
      · exact he
      · exact absurd h2 (takeAll_sticky _ _ he)
    have hk : (takeAll ((partsOf a.2.1).getD []) a.1 (Sd.of a.2.1)).2.kind = a.2.1 := takeAll_kind _ _ _
    have hq := takeAll_lay _ a.1 (Sd.of a.2.1) (partsOf_nodup a.2.1) h2
    rw [h3, List.append_nil] at hq
    unfold bodyL
    rw [hk, Int.toNat_natCast, ← hq]
    exact (hl h5).symm
  · exact absurd h (by decide)
end Go.Proofs.YtcfgnbbiljohjaaGreatDoor
end
section
/- The document's Parse, step by step: plain. -/
set_option linter.unusedVariables false
set_option linter.unusedSimpArgs false
set_option maxHeartbeats 1000000
namespace Go.Proofs.YtcfgnbbiljohjaaGreatDoor
open Go.RowKit
def dF7 (k : Int) (r : Rdr) (s : Sd) : Rdr × Sd := (r, s)
def dF6 (k : Int) (r : Rdr) (s : Sd) : Rdr × Sd := if k = 9 then Part.entry.take r s else (r, s)
def dF5 (k : Int) (r : Rdr) (s : Sd) : Rdr × Sd := if k = 1 ∨ k = 8 ∨ k = 9 then dF6 k (Part.token.take r s).1 (Part.token.take r s).2 else dF6 k r s
def dF4 (k : Int) (r : Rdr) (s : Sd) : Rdr × Sd := if k = 4 then dF5 k (Part.said.take r s).1 (Part.said.take r s).2 else dF5 k r s
def dF3 (k : Int) (r : Rdr) (s : Sd) : Rdr × Sd := if k = 7 ∨ k = 10 ∨ k = 11 then dF4 k (Part.is.take r s).1 (Part.is.take r s).2 else dF4 k r s
def dF2 (k : Int) (r : Rdr) (s : Sd) : Rdr × Sd := if k = 5 ∨ k = 8 ∨ k = 9 then dF3 k (Part.index.take r s).1 (Part.index.take r s).2 else dF3 k r s
def dF1 (k : Int) (r : Rdr) (s : Sd) : Rdr × Sd := if k = 4 ∨ k = 12 then dF2 k ((Part.number 0).take r s).1 ((Part.number 0).take r s).2 else dF2 k r s
def dF0 (k : Int) (r : Rdr) (s : Sd) : Rdr × Sd := if k = 1 ∨ k = 10 ∨ k = 11 then dF1 k (Part.member.take r s).1 (Part.member.take r s).2 else dF1 k r s
theorem dF_eq (k : Int) (h : 0 ≤ k ∧ k ≤ 12) (r : Rdr) (s : Sd) : dF0 k r s = takeAll ((partsOf k).getD []) r s := by
  obtain rfl | rfl | rfl | rfl | rfl | rfl | rfl | rfl | rfl | rfl | rfl | rfl | rfl : k = 0 ∨ k = 1 ∨ k = 2 ∨ k = 3 ∨ k = 4 ∨ k = 5 ∨ k = 6 ∨ k = 7 ∨ k = 8 ∨ k = 9 ∨ k = 10 ∨ k = 11 ∨ k = 12 := by omega
  all_goals rfl
/-- what is said has short texts -/
def Short (s : Sd) : Prop := s.text.length ≤ 200 ∧ s.token.length ≤ 200 ∧ s.e.text.length ≤ 200
theorem Part.take_short (p : Part) (r : Rdr) (s : Sd) (h : Short s) : Short (p.take r s).2 := by
  obtain ⟨h1, h2, h3⟩ := h
  cases p <;> unfold Part.take
  · exact ⟨h1, h2, h3⟩
  · exact ⟨h1, h2, h3⟩
  · exact ⟨h1, h2, h3⟩
  · exact ⟨h1, h2, h3⟩
  · have := r.txt_lt 200 (by decide)
    exact ⟨by dsimp only; omega, h2, h3⟩
  · have := r.txt_lt 200 (by decide)
    exact ⟨h1, by dsimp only; omega, h3⟩
  · dsimp only
    have ht := (((r.num 4).1.num 15).1.num 2147483647).1.txt_lt 200 (by decide)
    split
    · exact ⟨h1, h2, by dsimp only; omega⟩
    · exact ⟨h1, h2, h3⟩
theorem Part.take_e (p : Part) (r : Rdr) (s : Sd) (h : p.slot ≠ 6) : (p.take r s).2.e = s.e := by
  cases p <;> first | rfl | exact absurd rfl h
end Go.Proofs.YtcfgnbbiljohjaaGreatDoor
end
section
/- Where ways meet: a goal at a world, too. No program is named here. -/
set_option linter.unusedVariables false
set_option linter.unusedSimpArgs false
namespace Go.Proofs.YtcfgnbbiljohjaaGreatDoor
open Go.RowKit
instance gl9 (J : Act → World → Prop) (a : Act) (w : World) : Gl (Met J a w) (fun w => Met J a w) w := ⟨id⟩
end Go.Proofs.YtcfgnbbiljohjaaGreatDoor
end
