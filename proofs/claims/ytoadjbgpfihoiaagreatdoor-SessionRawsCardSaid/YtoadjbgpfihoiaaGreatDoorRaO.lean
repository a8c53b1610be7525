/- Texts Body, DocRaw, SC, DocRd, TakeLay, DocParse, CutS, DocParseW, one behind the other. Conditions: as each says. -/
import Derived.Test.YtoadjbgpfihoiaaGreatDoorRaN
import Derived.Deep.CutRange
set_option linter.unusedVariables false
set_option linter.unusedSimpArgs false
set_option maxHeartbeats 8000000
set_option maxRecDepth 100000
namespace Go.Proofs.YtoadjbgpfihoiaaGreatDoor
open Go.RowKit
section
theorem bodyNum_any {A : Nat → Prop} (w : World) (a : Option Addr) (c : Nat) (l : List UInt8) (n : Nat) (hn : n ≤ 2147483647) (hl : l.length ≤ 1048576) (h : (bytR (.slice a l.length c) l).p A w) :
 Calls Tryz.prog 198 #[.slice a l.length c, .int .i64 (n : Int)] w fun e w' => ∃ v', e = .returned v' ∧ Upd A w w' (bytR v' (l ++ numL n)) := by
 have HM := Lib.hid (Mem.start (r := bytR (.slice a l.length c) l) h)
 have HLL := Lib.hid hl
 have HNN := Lib.hid hn
 clear h
 go_enter Tryz.func198, Tryz.ntmps198
 go_wp2_with fail
 refine (rnumL_any w n (by omega)).mono ?_
 rintro e w2 ⟨v2, rfl, hU⟩
 obtain ⟨hb2, hE2⟩ := hU.byt
 have HB2 := Lib.hid hb2
 replace HM := Lib.hid (HM.out.ext hE2)
 obtain ⟨l2, hl2⟩ : ∃ l2, numL n = l2 := ⟨_, rfl⟩
 have HL2 := Lib.hid (show numL n = l2 ∧ l2.length ≤ 10 from ⟨hl2, by rw [← hl2]; exact (numL_len _).2⟩)
 rw [hl2] at HB2
 obtain ⟨a2, c2, rfl⟩ := HB2.out.len
 clear hU hb2 hE2 hl2
 go_wp2_with (at_builtin; refine standing ?_)
 obtain ⟨v8, w8, hr, hm9⟩ := Mem.bytAdd 27 HM.out _ _ HB2.out (by have := HL2.out; have := HLL.out; omega)
 replace HM := Lib.hid hm9
 refine ⟨?_⟩
 refine wpList_append_ran rfl _ _ hr rfl rfl rfl ?_
 clear hr hm9
 go_wp2_with fail
 go_ret
 rw [HL2.out.1]
 exact ⟨_, rfl, HM.out.upd⟩
theorem docBody_any (w : World) (s : Sd) (hb : sdB s = true) (hl : s.text.length ≤ 300 ∧ s.e.text.length ≤ 300 ∧ s.token.length ≤ 300) :
 Calls Tryz.prog 146 #[s.v] w fun e w' => ∃ v', e = .returned v' ∧ Upd NoB w w' (bytR v' (bodyL s)) := by
 have HM := Lib.hid (Mem.start0 w).bytNil
 rw [← right_eq] at hb
 simp only [Bool.and_eq_true, decide_eq_true_eq] at hb
 obtain ⟨⟨⟨hk, -⟩, hbd⟩, hown⟩ := hb
 obtain ⟨g1, g2, g3, g4, g5, g6, g7⟩ := (bnd_iff s).1 hbd
 obtain ⟨k, m, n, i, is, t, tok, en⟩ := s
 dsimp only at hk g1 g2 g3 g4 g5 g6 g7 hl
 obtain ⟨m, rfl⟩ := Int.eq_ofNat_of_zero_le g1
 obtain ⟨n, rfl⟩ := Int.eq_ofNat_of_zero_le g3
 obtain ⟨i, rfl⟩ := Int.eq_ofNat_of_zero_le g5
 have HTL := Lib.hid hl
 clear hbd g1 g3 g5 hl
 have HG := Lib.hid (show m < 16 ∧ n ≤ 2147483647 ∧ i ≤ 2147483647 ∧ tok.length ≤ 200 by omega)
 clear g2 g4 g6 g7
 obtain rfl | rfl | rfl | rfl | rfl | rfl | rfl | rfl | rfl | rfl | rfl | rfl : k = 1 ∨ k = 2 ∨ k = 3 ∨ k = 4 ∨ k = 5 ∨ k = 6 ∨ k = 7 ∨ k = 8 ∨ k = 9 ∨ k = 10 ∨ k = 11 ∨ k = 12 := by omega
 · skip
   have HQ := Lib.hid (show bodyL ⟨1, m, n, i, is, t, tok, en⟩ = numL 1 ++ numL m ++ txtL tok by simp [bodyL, partsOf, Part.lay, partsOf])
   obtain ⟨q, hq⟩ : ∃ q, bodyL ⟨1, m, n, i, is, t, tok, en⟩ = q := ⟨_, rfl⟩
   rw [hq] at HQ ⊢
   clear hq hk hown
   unfold Sd.v Sd.cells
   dsimp only
   go_enter Tryz.func146, Tryz.ntmps146
   have fM := HM.out.fa
   go_wp2_with fail
   all_goals clear fM
   refine nxt HM fun w0 M => ?_
   clear HM; have HM := M; clear M
   obtain ⟨C, hC, hS⟩ := (HM.out.pick (r := bytR (.slice none 0 0) []) pk).step
   refine (bodyNum_any w0 none 0 [] 1 (by decide) (by decide) hC).mono ?_
   rintro e w1 ⟨v1, rfl, hU⟩
   rw [List.nil_append] at hU
   obtain ⟨l1, hl1⟩ : ∃ x, numL 1 = x := ⟨_, rfl⟩
   have HL1 := Lib.hid (show numL 1 = l1 ∧ l1.length ≤ 1000 from ⟨hl1, by rw [← hl1]; have := numL_len 1; omega⟩)
   rw [hl1] at hU
   obtain ⟨a1, c1, rfl⟩ : ∃ a c, v1 = .slice a l1.length c := let ⟨_, h, _⟩ := hU; bytR.len h
   replace HM := Lib.hid (hS _ _ hU)
   clear hU hS hC hl1
   clear C
   have fM := HM.out.fa
   go_wp2_with fail
   all_goals clear fM
   have hlt : m ≤ 2147483647 := by have := HG.out; omega
   obtain ⟨C, hC, hS⟩ := (HM.out.pick (r := bytR (.slice a1 l1.length c1) l1) pk).step
   have HPL := Lib.hid (numL_len m)
   refine (bodyNum_any _ a1 c1 l1 m (by omega) (by have := HL1.out.2; omega) hC).mono ?_
   rintro e w2 ⟨v2, rfl, hU⟩
   obtain ⟨l2, hl2⟩ : ∃ x, l1 ++ numL m = x := ⟨_, rfl⟩
   have HL2 := Lib.hid (show l1 ++ numL m = l2 ∧ l2.length ≤ 1000 * 2 from ⟨hl2, by rw [← hl2, List.length_append]; have := HL1.out.2; have := HPL.out; omega⟩)
   rw [hl2] at hU
   obtain ⟨a2, c2, rfl⟩ : ∃ a c, v2 = .slice a l2.length c := let ⟨_, h, _⟩ := hU; bytR.len h
   replace HM := Lib.hid (hS _ _ hU)
   clear hU hS hC hl2 HPL
   clear C
   clear hlt
   have fM := HM.out.fa
   go_wp2_with fail
   all_goals clear fM
   refine (rtxtL_any _ tok (by have := HTL.out; omega)).mono ?_
   rintro e wT ⟨vT, rfl, hU⟩
   obtain ⟨hbT, hET⟩ := hU.byt
   have HBT := Lib.hid hbT
   replace HM := Lib.hid (HM.out.ext hET)
   obtain ⟨lT, hlT⟩ : ∃ x, txtL tok = x := ⟨_, rfl⟩
   have HLT := Lib.hid (show txtL tok = lT ∧ lT.length ≤ 900 from ⟨hlT, by rw [← hlT]; unfold txtL; rw [List.length_append]; have := numL_len tok.length; have := HTL.out; omega⟩)
   rw [hlT] at HBT
   obtain ⟨aT, cT, rfl⟩ := HBT.out.len
   clear hU hbT hET hlT
   go_wp2_with (at_builtin; refine standing ?_)
   replace HM := Lib.hid (HM.out.pick (r := bytR (.slice a2 l2.length c2) l2) pk)
   obtain ⟨v3, w3, hr, hm9⟩ := Mem.bytAdd 27 HM.out _ _ HBT.out (by have := HLT.out.2; have := HL2.out.2; omega)
   obtain ⟨l3, hl3⟩ : ∃ x, l2 ++ lT = x := ⟨_, rfl⟩
   have HL3 := Lib.hid (show l2 ++ txtL tok = l3 ∧ l3.length ≤ 1000 * 3 from ⟨by rw [HLT.out.1]; exact hl3, by rw [← hl3, List.length_append]; have := HL2.out.2; have := HLT.out.2; omega⟩)
   rw [hl3] at hm9
   replace HM := Lib.hid hm9
   obtain ⟨a3, c3, rfl⟩ : ∃ a c, v3 = .slice a l3.length c := by
    obtain ⟨A, hb, -⟩ := hm9.byt
    exact hb.len
   refine ⟨?_⟩
   refine wpList_append_ran rfl _ _ hr rfl rfl rfl ?_
   clear hr hm9 hl3 HBT HLT
   have fM := HM.out.fa
   go_wp2_with fail
   all_goals clear fM
   go_ret
   refine ⟨_, rfl, ?_⟩
   have hq : q = l3 := by rw [HQ.out]; rw [HL1.out.1]; rw [HL2.out.1]; rw [HL3.out.1]
   rw [hq]
   exact (HM.out.pick (r := bytR (.slice a3 l3.length c3) l3) pk).upd
 · skip
   have HQ := Lib.hid (show bodyL ⟨2, m, n, i, is, t, tok, en⟩ = numL 2 by simp [bodyL, partsOf, Part.lay, partsOf])
   obtain ⟨q, hq⟩ : ∃ q, bodyL ⟨2, m, n, i, is, t, tok, en⟩ = q := ⟨_, rfl⟩
   rw [hq] at HQ ⊢
   clear hq hk hown
   unfold Sd.v Sd.cells
   dsimp only
   go_enter Tryz.func146, Tryz.ntmps146
   have fM := HM.out.fa
   go_wp2_with fail
   all_goals clear fM
   refine nxt HM fun w0 M => ?_
   clear HM; have HM := M; clear M
   obtain ⟨C, hC, hS⟩ := (HM.out.pick (r := bytR (.slice none 0 0) []) pk).step
   refine (bodyNum_any w0 none 0 [] 2 (by decide) (by decide) hC).mono ?_
   rintro e w1 ⟨v1, rfl, hU⟩
   rw [List.nil_append] at hU
   obtain ⟨l1, hl1⟩ : ∃ x, numL 2 = x := ⟨_, rfl⟩
   have HL1 := Lib.hid (show numL 2 = l1 ∧ l1.length ≤ 1000 from ⟨hl1, by rw [← hl1]; have := numL_len 2; omega⟩)
   rw [hl1] at hU
   obtain ⟨a1, c1, rfl⟩ : ∃ a c, v1 = .slice a l1.length c := let ⟨_, h, _⟩ := hU; bytR.len h
   replace HM := Lib.hid (hS _ _ hU)
   clear hU hS hC hl1
   clear C
   have fM := HM.out.fa
   go_wp2_with fail
   all_goals clear fM
   go_ret
   refine ⟨_, rfl, ?_⟩
   have hq : q = l1 := by rw [HQ.out]; rw [HL1.out.1]
   rw [hq]
   exact (HM.out.pick (r := bytR (.slice a1 l1.length c1) l1) pk).upd
 · skip
   have HQ := Lib.hid (show bodyL ⟨3, m, n, i, is, t, tok, en⟩ = numL 3 by simp [bodyL, partsOf, Part.lay, partsOf])
   obtain ⟨q, hq⟩ : ∃ q, bodyL ⟨3, m, n, i, is, t, tok, en⟩ = q := ⟨_, rfl⟩
   rw [hq] at HQ ⊢
   clear hq hk hown
   unfold Sd.v Sd.cells
   dsimp only
   go_enter Tryz.func146, Tryz.ntmps146
   have fM := HM.out.fa
   go_wp2_with fail
   all_goals clear fM
   refine nxt HM fun w0 M => ?_
   clear HM; have HM := M; clear M
   obtain ⟨C, hC, hS⟩ := (HM.out.pick (r := bytR (.slice none 0 0) []) pk).step
   refine (bodyNum_any w0 none 0 [] 3 (by decide) (by decide) hC).mono ?_
   rintro e w1 ⟨v1, rfl, hU⟩
   rw [List.nil_append] at hU
   obtain ⟨l1, hl1⟩ : ∃ x, numL 3 = x := ⟨_, rfl⟩
   have HL1 := Lib.hid (show numL 3 = l1 ∧ l1.length ≤ 1000 from ⟨hl1, by rw [← hl1]; have := numL_len 3; omega⟩)
   rw [hl1] at hU
   obtain ⟨a1, c1, rfl⟩ : ∃ a c, v1 = .slice a l1.length c := let ⟨_, h, _⟩ := hU; bytR.len h
   replace HM := Lib.hid (hS _ _ hU)
   clear hU hS hC hl1
   clear C
   have fM := HM.out.fa
   go_wp2_with fail
   all_goals clear fM
   go_ret
   refine ⟨_, rfl, ?_⟩
   have hq : q = l1 := by rw [HQ.out]; rw [HL1.out.1]
   rw [hq]
   exact (HM.out.pick (r := bytR (.slice a1 l1.length c1) l1) pk).upd
 · skip
   have HQ := Lib.hid (show bodyL ⟨4, m, n, i, is, t, tok, en⟩ = numL 4 ++ numL n ++ txtL t by simp [bodyL, partsOf, Part.lay, partsOf])
   obtain ⟨q, hq⟩ : ∃ q, bodyL ⟨4, m, n, i, is, t, tok, en⟩ = q := ⟨_, rfl⟩
   rw [hq] at HQ ⊢
   clear hq hk hown
   unfold Sd.v Sd.cells
   dsimp only
   go_enter Tryz.func146, Tryz.ntmps146
   have fM := HM.out.fa
   go_wp2_with fail
   all_goals clear fM
   refine nxt HM fun w0 M => ?_
   clear HM; have HM := M; clear M
   obtain ⟨C, hC, hS⟩ := (HM.out.pick (r := bytR (.slice none 0 0) []) pk).step
   refine (bodyNum_any w0 none 0 [] 4 (by decide) (by decide) hC).mono ?_
   rintro e w1 ⟨v1, rfl, hU⟩
   rw [List.nil_append] at hU
   obtain ⟨l1, hl1⟩ : ∃ x, numL 4 = x := ⟨_, rfl⟩
   have HL1 := Lib.hid (show numL 4 = l1 ∧ l1.length ≤ 1000 from ⟨hl1, by rw [← hl1]; have := numL_len 4; omega⟩)
   rw [hl1] at hU
   obtain ⟨a1, c1, rfl⟩ : ∃ a c, v1 = .slice a l1.length c := let ⟨_, h, _⟩ := hU; bytR.len h
   replace HM := Lib.hid (hS _ _ hU)
   clear hU hS hC hl1
   clear C
   have fM := HM.out.fa
   go_wp2_with fail
   all_goals clear fM
   have hlt : n ≤ 2147483647 := by have := HG.out; omega
   obtain ⟨C, hC, hS⟩ := (HM.out.pick (r := bytR (.slice a1 l1.length c1) l1) pk).step
   have HPL := Lib.hid (numL_len n)
   refine (bodyNum_any _ a1 c1 l1 n (by omega) (by have := HL1.out.2; omega) hC).mono ?_
   rintro e w2 ⟨v2, rfl, hU⟩
   obtain ⟨l2, hl2⟩ : ∃ x, l1 ++ numL n = x := ⟨_, rfl⟩
   have HL2 := Lib.hid (show l1 ++ numL n = l2 ∧ l2.length ≤ 1000 * 2 from ⟨hl2, by rw [← hl2, List.length_append]; have := HL1.out.2; have := HPL.out; omega⟩)
   rw [hl2] at hU
   obtain ⟨a2, c2, rfl⟩ : ∃ a c, v2 = .slice a l2.length c := let ⟨_, h, _⟩ := hU; bytR.len h
   replace HM := Lib.hid (hS _ _ hU)
   clear hU hS hC hl2 HPL
   clear C
   clear hlt
   have fM := HM.out.fa
   go_wp2_with fail
   all_goals clear fM
   refine (rtxtL_any _ t (by have := HTL.out; omega)).mono ?_
   rintro e wT ⟨vT, rfl, hU⟩
   obtain ⟨hbT, hET⟩ := hU.byt
   have HBT := Lib.hid hbT
   replace HM := Lib.hid (HM.out.ext hET)
   obtain ⟨lT, hlT⟩ : ∃ x, txtL t = x := ⟨_, rfl⟩
   have HLT := Lib.hid (show txtL t = lT ∧ lT.length ≤ 900 from ⟨hlT, by rw [← hlT]; unfold txtL; rw [List.length_append]; have := numL_len t.length; have := HTL.out; omega⟩)
   rw [hlT] at HBT
   obtain ⟨aT, cT, rfl⟩ := HBT.out.len
   clear hU hbT hET hlT
   go_wp2_with (at_builtin; refine standing ?_)
   replace HM := Lib.hid (HM.out.pick (r := bytR (.slice a2 l2.length c2) l2) pk)
   obtain ⟨v3, w3, hr, hm9⟩ := Mem.bytAdd 27 HM.out _ _ HBT.out (by have := HLT.out.2; have := HL2.out.2; omega)
   obtain ⟨l3, hl3⟩ : ∃ x, l2 ++ lT = x := ⟨_, rfl⟩
   have HL3 := Lib.hid (show l2 ++ txtL t = l3 ∧ l3.length ≤ 1000 * 3 from ⟨by rw [HLT.out.1]; exact hl3, by rw [← hl3, List.length_append]; have := HL2.out.2; have := HLT.out.2; omega⟩)
   rw [hl3] at hm9
   replace HM := Lib.hid hm9
   obtain ⟨a3, c3, rfl⟩ : ∃ a c, v3 = .slice a l3.length c := by
    obtain ⟨A, hb, -⟩ := hm9.byt
    exact hb.len
   refine ⟨?_⟩
   refine wpList_append_ran rfl _ _ hr rfl rfl rfl ?_
   clear hr hm9 hl3 HBT HLT
   have fM := HM.out.fa
   go_wp2_with fail
   all_goals clear fM
   go_ret
   refine ⟨_, rfl, ?_⟩
   have hq : q = l3 := by rw [HQ.out]; rw [HL1.out.1]; rw [HL2.out.1]; rw [HL3.out.1]
   rw [hq]
   exact (HM.out.pick (r := bytR (.slice a3 l3.length c3) l3) pk).upd
 · skip
   have HQ := Lib.hid (show bodyL ⟨5, m, n, i, is, t, tok, en⟩ = numL 5 ++ numL i by simp [bodyL, partsOf, Part.lay, partsOf])
   obtain ⟨q, hq⟩ : ∃ q, bodyL ⟨5, m, n, i, is, t, tok, en⟩ = q := ⟨_, rfl⟩
   rw [hq] at HQ ⊢
   clear hq hk hown
   unfold Sd.v Sd.cells
   dsimp only
   go_enter Tryz.func146, Tryz.ntmps146
   have fM := HM.out.fa
   go_wp2_with fail
   all_goals clear fM
   refine nxt HM fun w0 M => ?_
   clear HM; have HM := M; clear M
   obtain ⟨C, hC, hS⟩ := (HM.out.pick (r := bytR (.slice none 0 0) []) pk).step
   refine (bodyNum_any w0 none 0 [] 5 (by decide) (by decide) hC).mono ?_
   rintro e w1 ⟨v1, rfl, hU⟩
   rw [List.nil_append] at hU
   obtain ⟨l1, hl1⟩ : ∃ x, numL 5 = x := ⟨_, rfl⟩
   have HL1 := Lib.hid (show numL 5 = l1 ∧ l1.length ≤ 1000 from ⟨hl1, by rw [← hl1]; have := numL_len 5; omega⟩)
   rw [hl1] at hU
   obtain ⟨a1, c1, rfl⟩ : ∃ a c, v1 = .slice a l1.length c := let ⟨_, h, _⟩ := hU; bytR.len h
   replace HM := Lib.hid (hS _ _ hU)
   clear hU hS hC hl1
   clear C
   have fM := HM.out.fa
   go_wp2_with fail
   all_goals clear fM
   have hlt : i ≤ 2147483647 := by have := HG.out; omega
   obtain ⟨C, hC, hS⟩ := (HM.out.pick (r := bytR (.slice a1 l1.length c1) l1) pk).step
   have HPL := Lib.hid (numL_len i)
   refine (bodyNum_any _ a1 c1 l1 i (by omega) (by have := HL1.out.2; omega) hC).mono ?_
   rintro e w2 ⟨v2, rfl, hU⟩
   obtain ⟨l2, hl2⟩ : ∃ x, l1 ++ numL i = x := ⟨_, rfl⟩
   have HL2 := Lib.hid (show l1 ++ numL i = l2 ∧ l2.length ≤ 1000 * 2 from ⟨hl2, by rw [← hl2, List.length_append]; have := HL1.out.2; have := HPL.out; omega⟩)
   rw [hl2] at hU
   obtain ⟨a2, c2, rfl⟩ : ∃ a c, v2 = .slice a l2.length c := let ⟨_, h, _⟩ := hU; bytR.len h
   replace HM := Lib.hid (hS _ _ hU)
   clear hU hS hC hl2 HPL
   clear C
   clear hlt
   have fM := HM.out.fa
   go_wp2_with fail
   all_goals clear fM
   go_ret
   refine ⟨_, rfl, ?_⟩
   have hq : q = l2 := by rw [HQ.out]; rw [HL1.out.1]; rw [HL2.out.1]
   rw [hq]
   exact (HM.out.pick (r := bytR (.slice a2 l2.length c2) l2) pk).upd
 · skip
   have HQ := Lib.hid (show bodyL ⟨6, m, n, i, is, t, tok, en⟩ = numL 6 by simp [bodyL, partsOf, Part.lay, partsOf])
   obtain ⟨q, hq⟩ : ∃ q, bodyL ⟨6, m, n, i, is, t, tok, en⟩ = q := ⟨_, rfl⟩
   rw [hq] at HQ ⊢
   clear hq hk hown
   unfold Sd.v Sd.cells
   dsimp only
   go_enter Tryz.func146, Tryz.ntmps146
   have fM := HM.out.fa
   go_wp2_with fail
   all_goals clear fM
   refine nxt HM fun w0 M => ?_
   clear HM; have HM := M; clear M
   obtain ⟨C, hC, hS⟩ := (HM.out.pick (r := bytR (.slice none 0 0) []) pk).step
   refine (bodyNum_any w0 none 0 [] 6 (by decide) (by decide) hC).mono ?_
   rintro e w1 ⟨v1, rfl, hU⟩
   rw [List.nil_append] at hU
   obtain ⟨l1, hl1⟩ : ∃ x, numL 6 = x := ⟨_, rfl⟩
   have HL1 := Lib.hid (show numL 6 = l1 ∧ l1.length ≤ 1000 from ⟨hl1, by rw [← hl1]; have := numL_len 6; omega⟩)
   rw [hl1] at hU
   obtain ⟨a1, c1, rfl⟩ : ∃ a c, v1 = .slice a l1.length c := let ⟨_, h, _⟩ := hU; bytR.len h
   replace HM := Lib.hid (hS _ _ hU)
   clear hU hS hC hl1
   clear C
   have fM := HM.out.fa
   go_wp2_with fail
   all_goals clear fM
   go_ret
   refine ⟨_, rfl, ?_⟩
   have hq : q = l1 := by rw [HQ.out]; rw [HL1.out.1]
   rw [hq]
   exact (HM.out.pick (r := bytR (.slice a1 l1.length c1) l1) pk).upd
 · skip
   have HQ := Lib.hid (show bodyL ⟨7, m, n, i, is, t, tok, en⟩ = numL 7 ++ truL is by simp [bodyL, partsOf, Part.lay, partsOf])
   obtain ⟨q, hq⟩ : ∃ q, bodyL ⟨7, m, n, i, is, t, tok, en⟩ = q := ⟨_, rfl⟩
   rw [hq] at HQ ⊢
   clear hq hk hown
   unfold Sd.v Sd.cells
   dsimp only
   go_enter Tryz.func146, Tryz.ntmps146
   have fM := HM.out.fa
   go_wp2_with fail
   all_goals clear fM
   refine nxt HM fun w0 M => ?_
   clear HM; have HM := M; clear M
   obtain ⟨C, hC, hS⟩ := (HM.out.pick (r := bytR (.slice none 0 0) []) pk).step
   refine (bodyNum_any w0 none 0 [] 7 (by decide) (by decide) hC).mono ?_
   rintro e w1 ⟨v1, rfl, hU⟩
   rw [List.nil_append] at hU
   obtain ⟨l1, hl1⟩ : ∃ x, numL 7 = x := ⟨_, rfl⟩
   have HL1 := Lib.hid (show numL 7 = l1 ∧ l1.length ≤ 1000 from ⟨hl1, by rw [← hl1]; have := numL_len 7; omega⟩)
   rw [hl1] at hU
   obtain ⟨a1, c1, rfl⟩ : ∃ a c, v1 = .slice a l1.length c := let ⟨_, h, _⟩ := hU; bytR.len h
   replace HM := Lib.hid (hS _ _ hU)
   clear hU hS hC hl1
   clear C
   have fM := HM.out.fa
   go_wp2_with fail
   all_goals clear fM
   refine (rtruL_any _ is).mono ?_
   rintro e wT ⟨vT, rfl, hU⟩
   obtain ⟨hbT, hET⟩ := hU.byt
   have HBT := Lib.hid hbT
   replace HM := Lib.hid (HM.out.ext hET)
   obtain ⟨lT, hlT⟩ : ∃ x, truL is = x := ⟨_, rfl⟩
   have HLT := Lib.hid (show truL is = lT ∧ lT.length ≤ 900 from ⟨hlT, by rw [← hlT]; cases is <;> decide⟩)
   rw [hlT] at HBT
   obtain ⟨aT, cT, rfl⟩ := HBT.out.len
   clear hU hbT hET hlT
   go_wp2_with (at_builtin; refine standing ?_)
   replace HM := Lib.hid (HM.out.pick (r := bytR (.slice a1 l1.length c1) l1) pk)
   obtain ⟨v2, w2, hr, hm9⟩ := Mem.bytAdd 27 HM.out _ _ HBT.out (by have := HLT.out.2; have := HL1.out.2; omega)
   obtain ⟨l2, hl2⟩ : ∃ x, l1 ++ lT = x := ⟨_, rfl⟩
   have HL2 := Lib.hid (show l1 ++ truL is = l2 ∧ l2.length ≤ 1000 * 2 from ⟨by rw [HLT.out.1]; exact hl2, by rw [← hl2, List.length_append]; have := HL1.out.2; have := HLT.out.2; omega⟩)
   rw [hl2] at hm9
   replace HM := Lib.hid hm9
   obtain ⟨a2, c2, rfl⟩ : ∃ a c, v2 = .slice a l2.length c := by
    obtain ⟨A, hb, -⟩ := hm9.byt
    exact hb.len
   refine ⟨?_⟩
   refine wpList_append_ran rfl _ _ hr rfl rfl rfl ?_
   clear hr hm9 hl2 HBT HLT
   have fM := HM.out.fa
   go_wp2_with fail
   all_goals clear fM
   go_ret
   refine ⟨_, rfl, ?_⟩
   have hq : q = l2 := by rw [HQ.out]; rw [HL1.out.1]; rw [HL2.out.1]
   rw [hq]
   exact (HM.out.pick (r := bytR (.slice a2 l2.length c2) l2) pk).upd
 · skip
   have HQ := Lib.hid (show bodyL ⟨8, m, n, i, is, t, tok, en⟩ = numL 8 ++ numL i ++ txtL tok by simp [bodyL, partsOf, Part.lay, partsOf])
   obtain ⟨q, hq⟩ : ∃ q, bodyL ⟨8, m, n, i, is, t, tok, en⟩ = q := ⟨_, rfl⟩
   rw [hq] at HQ ⊢
   clear hq hk hown
   unfold Sd.v Sd.cells
   dsimp only
   go_enter Tryz.func146, Tryz.ntmps146
   have fM := HM.out.fa
   go_wp2_with fail
   all_goals clear fM
   refine nxt HM fun w0 M => ?_
   clear HM; have HM := M; clear M
   obtain ⟨C, hC, hS⟩ := (HM.out.pick (r := bytR (.slice none 0 0) []) pk).step
   refine (bodyNum_any w0 none 0 [] 8 (by decide) (by decide) hC).mono ?_
   rintro e w1 ⟨v1, rfl, hU⟩
   rw [List.nil_append] at hU
   obtain ⟨l1, hl1⟩ : ∃ x, numL 8 = x := ⟨_, rfl⟩
   have HL1 := Lib.hid (show numL 8 = l1 ∧ l1.length ≤ 1000 from ⟨hl1, by rw [← hl1]; have := numL_len 8; omega⟩)
   rw [hl1] at hU
   obtain ⟨a1, c1, rfl⟩ : ∃ a c, v1 = .slice a l1.length c := let ⟨_, h, _⟩ := hU; bytR.len h
   replace HM := Lib.hid (hS _ _ hU)
   clear hU hS hC hl1
   clear C
   have fM := HM.out.fa
   go_wp2_with fail
   all_goals clear fM
   have hlt : i ≤ 2147483647 := by have := HG.out; omega
   obtain ⟨C, hC, hS⟩ := (HM.out.pick (r := bytR (.slice a1 l1.length c1) l1) pk).step
   have HPL := Lib.hid (numL_len i)
   refine (bodyNum_any _ a1 c1 l1 i (by omega) (by have := HL1.out.2; omega) hC).mono ?_
   rintro e w2 ⟨v2, rfl, hU⟩
   obtain ⟨l2, hl2⟩ : ∃ x, l1 ++ numL i = x := ⟨_, rfl⟩
   have HL2 := Lib.hid (show l1 ++ numL i = l2 ∧ l2.length ≤ 1000 * 2 from ⟨hl2, by rw [← hl2, List.length_append]; have := HL1.out.2; have := HPL.out; omega⟩)
   rw [hl2] at hU
   obtain ⟨a2, c2, rfl⟩ : ∃ a c, v2 = .slice a l2.length c := let ⟨_, h, _⟩ := hU; bytR.len h
   replace HM := Lib.hid (hS _ _ hU)
   clear hU hS hC hl2 HPL
   clear C
   clear hlt
   have fM := HM.out.fa
   go_wp2_with fail
   all_goals clear fM
   refine (rtxtL_any _ tok (by have := HTL.out; omega)).mono ?_
   rintro e wT ⟨vT, rfl, hU⟩
   obtain ⟨hbT, hET⟩ := hU.byt
   have HBT := Lib.hid hbT
   replace HM := Lib.hid (HM.out.ext hET)
   obtain ⟨lT, hlT⟩ : ∃ x, txtL tok = x := ⟨_, rfl⟩
   have HLT := Lib.hid (show txtL tok = lT ∧ lT.length ≤ 900 from ⟨hlT, by rw [← hlT]; unfold txtL; rw [List.length_append]; have := numL_len tok.length; have := HTL.out; omega⟩)
   rw [hlT] at HBT
   obtain ⟨aT, cT, rfl⟩ := HBT.out.len
   clear hU hbT hET hlT
   go_wp2_with (at_builtin; refine standing ?_)
   replace HM := Lib.hid (HM.out.pick (r := bytR (.slice a2 l2.length c2) l2) pk)
   obtain ⟨v3, w3, hr, hm9⟩ := Mem.bytAdd 27 HM.out _ _ HBT.out (by have := HLT.out.2; have := HL2.out.2; omega)
   obtain ⟨l3, hl3⟩ : ∃ x, l2 ++ lT = x := ⟨_, rfl⟩
   have HL3 := Lib.hid (show l2 ++ txtL tok = l3 ∧ l3.length ≤ 1000 * 3 from ⟨by rw [HLT.out.1]; exact hl3, by rw [← hl3, List.length_append]; have := HL2.out.2; have := HLT.out.2; omega⟩)
   rw [hl3] at hm9
   replace HM := Lib.hid hm9
   obtain ⟨a3, c3, rfl⟩ : ∃ a c, v3 = .slice a l3.length c := by
    obtain ⟨A, hb, -⟩ := hm9.byt
    exact hb.len
   refine ⟨?_⟩
   refine wpList_append_ran rfl _ _ hr rfl rfl rfl ?_
   clear hr hm9 hl3 HBT HLT
   have fM := HM.out.fa
   go_wp2_with fail
   all_goals clear fM
   go_ret
   refine ⟨_, rfl, ?_⟩
   have hq : q = l3 := by rw [HQ.out]; rw [HL1.out.1]; rw [HL2.out.1]; rw [HL3.out.1]
   rw [hq]
   exact (HM.out.pick (r := bytR (.slice a3 l3.length c3) l3) pk).upd
 · have hen : enB en = true ∧ ¬ en.kind = 1 := by simpa [ownB] using hown
   obtain ⟨⟨e1, e2⟩, ⟨e3, e4⟩, e5⟩ := enB_bounds hen.2 hen.1
   obtain ⟨ek, em, enn, et⟩ := en
   dsimp only at e1 e2 e3 e4 e5 HTL
   obtain ⟨em, rfl⟩ := Int.eq_ofNat_of_zero_le e3
   by_cases h4 : ek = 4
   · subst h4
     obtain ⟨e6, e7, e8⟩ := e5 rfl
     obtain ⟨enn, rfl⟩ := Int.eq_ofNat_of_zero_le e6
     have HG2 := Lib.hid (show em ≤ 15 ∧ enn ≤ 2147483647 by omega)
     clear e1 e2 e3 e4 e5 e6 e7 e8 hen
     have HQ := Lib.hid (show bodyL ⟨9, m, n, i, is, t, tok, ⟨4, em, enn, et⟩⟩ = numL 9 ++ numL i ++ txtL tok ++ numL 4 ++ numL em ++ numL enn ++ txtL et by simp [bodyL, partsOf, Part.lay, partsOf])
     obtain ⟨q, hq⟩ : ∃ q, bodyL ⟨9, m, n, i, is, t, tok, ⟨4, em, enn, et⟩⟩ = q := ⟨_, rfl⟩
     rw [hq] at HQ ⊢
     clear hq hk hown
     unfold Sd.v Sd.cells
     dsimp only
     go_enter Tryz.func146, Tryz.ntmps146
     have fM := HM.out.fa
     go_wp2_with fail
     all_goals clear fM
     refine nxt HM fun w0 M => ?_
     clear HM; have HM := M; clear M
     obtain ⟨C, hC, hS⟩ := (HM.out.pick (r := bytR (.slice none 0 0) []) pk).step
     refine (bodyNum_any w0 none 0 [] 9 (by decide) (by decide) hC).mono ?_
     rintro e w1 ⟨v1, rfl, hU⟩
     rw [List.nil_append] at hU
     obtain ⟨l1, hl1⟩ : ∃ x, numL 9 = x := ⟨_, rfl⟩
     have HL1 := Lib.hid (show numL 9 = l1 ∧ l1.length ≤ 1000 from ⟨hl1, by rw [← hl1]; have := numL_len 9; omega⟩)
     rw [hl1] at hU
     obtain ⟨a1, c1, rfl⟩ : ∃ a c, v1 = .slice a l1.length c := let ⟨_, h, _⟩ := hU; bytR.len h
     replace HM := Lib.hid (hS _ _ hU)
     clear hU hS hC hl1
     clear C
     have fM := HM.out.fa
     go_wp2_with fail
     all_goals clear fM
     have hlt : i ≤ 2147483647 := by have := HG.out; omega
     obtain ⟨C, hC, hS⟩ := (HM.out.pick (r := bytR (.slice a1 l1.length c1) l1) pk).step
     have HPL := Lib.hid (numL_len i)
     refine (bodyNum_any _ a1 c1 l1 i (by omega) (by have := HL1.out.2; omega) hC).mono ?_
     rintro e w2 ⟨v2, rfl, hU⟩
     obtain ⟨l2, hl2⟩ : ∃ x, l1 ++ numL i = x := ⟨_, rfl⟩
     have HL2 := Lib.hid (show l1 ++ numL i = l2 ∧ l2.length ≤ 1000 * 2 from ⟨hl2, by rw [← hl2, List.length_append]; have := HL1.out.2; have := HPL.out; omega⟩)
     rw [hl2] at hU
     obtain ⟨a2, c2, rfl⟩ : ∃ a c, v2 = .slice a l2.length c := let ⟨_, h, _⟩ := hU; bytR.len h
     replace HM := Lib.hid (hS _ _ hU)
     clear hU hS hC hl2 HPL
     clear C
     clear hlt
     have fM := HM.out.fa
     go_wp2_with fail
     all_goals clear fM
     refine (rtxtL_any _ tok (by have := HTL.out; omega)).mono ?_
     rintro e wT ⟨vT, rfl, hU⟩
     obtain ⟨hbT, hET⟩ := hU.byt
     have HBT := Lib.hid hbT
     replace HM := Lib.hid (HM.out.ext hET)
     obtain ⟨lT, hlT⟩ : ∃ x, txtL tok = x := ⟨_, rfl⟩
     have HLT := Lib.hid (show txtL tok = lT ∧ lT.length ≤ 900 from ⟨hlT, by rw [← hlT]; unfold txtL; rw [List.length_append]; have := numL_len tok.length; have := HTL.out; omega⟩)
     rw [hlT] at HBT
     obtain ⟨aT, cT, rfl⟩ := HBT.out.len
     clear hU hbT hET hlT
     go_wp2_with (at_builtin; refine standing ?_)
     replace HM := Lib.hid (HM.out.pick (r := bytR (.slice a2 l2.length c2) l2) pk)
     obtain ⟨v3, w3, hr, hm9⟩ := Mem.bytAdd 27 HM.out _ _ HBT.out (by have := HLT.out.2; have := HL2.out.2; omega)
     obtain ⟨l3, hl3⟩ : ∃ x, l2 ++ lT = x := ⟨_, rfl⟩
     have HL3 := Lib.hid (show l2 ++ txtL tok = l3 ∧ l3.length ≤ 1000 * 3 from ⟨by rw [HLT.out.1]; exact hl3, by rw [← hl3, List.length_append]; have := HL2.out.2; have := HLT.out.2; omega⟩)
     rw [hl3] at hm9
     replace HM := Lib.hid hm9
     obtain ⟨a3, c3, rfl⟩ : ∃ a c, v3 = .slice a l3.length c := by
      obtain ⟨A, hb, -⟩ := hm9.byt
      exact hb.len
     refine ⟨?_⟩
     refine wpList_append_ran rfl _ _ hr rfl rfl rfl ?_
     clear hr hm9 hl3 HBT HLT
     have fM := HM.out.fa
     go_wp2_with fail
     all_goals clear fM
     refine nxt HM fun w4 M => ?_
     clear HM; have HM := M; clear M
     obtain ⟨kt, hkt⟩ : ∃ k, w3.heap.size = k := ⟨_, rfl⟩
     rw [hkt] at HM ⊢
     clear hkt
     obtain ⟨C, hC, ha1, -, hS⟩ := HM.out.apart1 (r := bytR (.slice a3 l3.length c3) l3) (b := kt) (by with_reducible repeat first | exact ph | apply pt) (by with_reducible repeat first | exact ph | apply pt)
     have HPL := Lib.hid (numL_len 4)
     have fM := HM.out.fa
     have hE0 : Keeps (C) w4 w4.drew := (Keeps.refl _ _).drew
     refine wp_region_plan [(0, 0), (0, 1), (3, 2), (0, 4), (1, 5), (2, 3)] [5] [3, 6, 7] [6, 7] (ClsK (C) w4) (by kernel_rfl) (by kernel_rfl) (by kernel_rfl) rfl rfl (ClsK.of hE0) (fun _ _ _ d _ h => by cases d <;> exact h) ?_; simp only [planL, nL]
     iterate 5 (first | (refine pM _ rfl rfl ?_; simp only [nP, nE]) | (refine pR (by rfl) (fun W => by go_simp <;> with_reducible rfl) ?_; simp only [nP]) | (refine pX (by rfl) (by go_simp <;> with_reducible rfl) ?_; simp only [nP]) | (refine pK (by rfl) (fun W => by go_simp <;> with_reducible rfl) ?_; simp only [nP]))
     refine plan_does rfl (fun K hK => ?_)
     go_wp2_with fail
     refine (bodyNum_any _ a3 c3 l3 4 (by have := HG2.out; omega) (by have := HL3.out.2; omega) (Res.keeps _ hC (Ext.drew0 w4) (fun _ _ => noB _))).mono ?_
     rintro e w5 ⟨v5, rfl, hU⟩
     have hU2 := hU.pre (Ext.drew0 w4)
     have hE1 := hU2.keepsTo
     clear hU
     refine hK _ _ ⟨ClsK.of (by assumption), ?_⟩; clear hK K; try simp only [nP]
     refine plan_nil ?_; simp only [tailL, List.filterMap_cons, List.filterMap_nil, nL]; change wpList _ _ _ (_ :: _ :: []) _ _
     clear fM
     obtain ⟨l5, hl5⟩ : ∃ x, l3 ++ numL 4 = x := ⟨_, rfl⟩
     have HL5 := Lib.hid (show l3 ++ numL 4 = l5 ∧ l5.length ≤ 1000 * 5 from ⟨hl5, by rw [← hl5, List.length_append]; have := HL3.out.2; have := HPL.out; omega⟩)
     rw [hl5] at hU2
     obtain ⟨a5, c5, rfl⟩ : ∃ a c, v5 = .slice a l5.length c := let ⟨_, h, _⟩ := hU2; bytR.len h
     replace HM := Lib.hid (hS _ _ hU2)
     clear hU2 hE1 hE0 hS hC ha1 hl5 HPL
     clear C
     have fM := HM.out.fa
     go_wp2_with fail
     all_goals clear fM
     have hlt : em ≤ 2147483647 := by have := HG2.out; omega
     obtain ⟨C, hC, hS⟩ := (HM.out.pick (r := bytR (.slice a5 l5.length c5) l5) pk).step
     have HPL := Lib.hid (numL_len em)
     refine (bodyNum_any _ a5 c5 l5 em (by omega) (by have := HL5.out.2; omega) hC).mono ?_
     rintro e w6 ⟨v6, rfl, hU⟩
     obtain ⟨l6, hl6⟩ : ∃ x, l5 ++ numL em = x := ⟨_, rfl⟩
     have HL6 := Lib.hid (show l5 ++ numL em = l6 ∧ l6.length ≤ 1000 * 6 from ⟨hl6, by rw [← hl6, List.length_append]; have := HL5.out.2; have := HPL.out; omega⟩)
     rw [hl6] at hU
     obtain ⟨a6, c6, rfl⟩ : ∃ a c, v6 = .slice a l6.length c := let ⟨_, h, _⟩ := hU; bytR.len h
     replace HM := Lib.hid (hS _ _ hU)
     clear hU hS hC hl6 HPL
     clear C
     clear hlt
     have fM := HM.out.fa
     go_wp2_with fail
     all_goals clear fM
     obtain ⟨C, hC, ha1, -, hS⟩ := HM.out.apart1 (r := bytR (.slice a6 l6.length c6) l6) (b := kt) (by with_reducible repeat first | exact ph | apply pt) (by with_reducible repeat first | exact ph | apply pt)
     have HPL := Lib.hid (numL_len enn)
     have fM := HM.out.fa
     have hE0 : Keeps (C) w6 w6.drew := (Keeps.refl _ _).drew
     refine wp_region_plan [(0, 0), (0, 1), (3, 2), (0, 4), (1, 5), (2, 3)] [5] [3, 6, 7, 8] [6, 7, 8] (ClsK (C) w6) (by kernel_rfl) (by kernel_rfl) (by kernel_rfl) rfl rfl (ClsK.of hE0) (fun _ _ _ d _ h => by cases d <;> exact h) ?_; simp only [planL, nL]
     iterate 5 (first | (refine pM _ rfl rfl ?_; simp only [nP, nE]) | (refine pR (by rfl) (fun W => by go_simp <;> with_reducible rfl) ?_; simp only [nP]) | (refine pX (by rfl) (by go_simp <;> with_reducible rfl) ?_; simp only [nP]) | (refine pK (by rfl) (fun W => by go_simp <;> with_reducible rfl) ?_; simp only [nP]))
     refine plan_does rfl (fun K hK => ?_)
     go_wp2_with fail
     refine (bodyNum_any _ a6 c6 l6 enn (by have := HG2.out; omega) (by have := HL6.out.2; omega) (Res.keeps _ hC (Ext.drew0 w6) (fun _ _ => noB _))).mono ?_
     rintro e w7 ⟨v7, rfl, hU⟩
     have hU2 := hU.pre (Ext.drew0 w6)
     have hE1 := hU2.keepsTo
     clear hU
     refine hK _ _ ⟨ClsK.of (by assumption), ?_⟩; clear hK K; try simp only [nP]
     refine plan_nil ?_; simp only [tailL, List.filterMap_cons, List.filterMap_nil, nL]; change wpList _ _ _ (_ :: _ :: _ :: []) _ _
     clear fM
     obtain ⟨l7, hl7⟩ : ∃ x, l6 ++ numL enn = x := ⟨_, rfl⟩
     have HL7 := Lib.hid (show l6 ++ numL enn = l7 ∧ l7.length ≤ 1000 * 7 from ⟨hl7, by rw [← hl7, List.length_append]; have := HL6.out.2; have := HPL.out; omega⟩)
     rw [hl7] at hU2
     obtain ⟨a7, c7, rfl⟩ : ∃ a c, v7 = .slice a l7.length c := let ⟨_, h, _⟩ := hU2; bytR.len h
     replace HM := Lib.hid (hS _ _ hU2)
     clear hU2 hE1 hE0 hS hC ha1 hl7 HPL
     clear C
     have fM := HM.out.fa
     go_wp2_with fail
     all_goals clear fM
     refine (rtxtL_any _ et (by have := HTL.out; omega)).mono ?_
     rintro e wT ⟨vT, rfl, hU⟩
     obtain ⟨hbT, hET⟩ := hU.byt
     have HBT := Lib.hid hbT
     replace HM := Lib.hid (HM.out.ext hET)
     obtain ⟨lT, hlT⟩ : ∃ x, txtL et = x := ⟨_, rfl⟩
     have HLT := Lib.hid (show txtL et = lT ∧ lT.length ≤ 900 from ⟨hlT, by rw [← hlT]; unfold txtL; rw [List.length_append]; have := numL_len et.length; have := HTL.out; omega⟩)
     rw [hlT] at HBT
     obtain ⟨aT, cT, rfl⟩ := HBT.out.len
     clear hU hbT hET hlT
     go_wp2_with (at_builtin; refine standing ?_)
     replace HM := Lib.hid (HM.out.pick (r := bytR (.slice a7 l7.length c7) l7) pk)
     obtain ⟨v8, w8, hr, hm9⟩ := Mem.bytAdd 27 HM.out _ _ HBT.out (by have := HLT.out.2; have := HL7.out.2; omega)
     obtain ⟨l8, hl8⟩ : ∃ x, l7 ++ lT = x := ⟨_, rfl⟩
     have HL8 := Lib.hid (show l7 ++ txtL et = l8 ∧ l8.length ≤ 1000 * 8 from ⟨by rw [HLT.out.1]; exact hl8, by rw [← hl8, List.length_append]; have := HL7.out.2; have := HLT.out.2; omega⟩)
     rw [hl8] at hm9
     replace HM := Lib.hid hm9
     obtain ⟨a8, c8, rfl⟩ : ∃ a c, v8 = .slice a l8.length c := by
      obtain ⟨A, hb, -⟩ := hm9.byt
      exact hb.len
     refine ⟨?_⟩
     refine wpList_append_ran rfl _ _ hr rfl rfl rfl ?_
     clear hr hm9 hl8 HBT HLT
     have fM := HM.out.fa
     go_wp2_with fail
     all_goals clear fM
     go_ret
     refine ⟨_, rfl, ?_⟩
     have hq : q = l8 := by rw [HQ.out]; rw [HL1.out.1, HL2.out.1, HL3.out.1, HL5.out.1, HL6.out.1, HL7.out.1, HL8.out.1]
     rw [hq]
     exact (HM.out.pick (r := bytR (.slice a8 l8.length c8) l8) pk).upd
   · obtain ⟨ek, rfl⟩ := Int.eq_ofNat_of_zero_le e1
     have HG2 := Lib.hid (show em ≤ 15 ∧ ek ≤ 4 by omega)
     clear e1 e2 e3 e4 e5 hen
     have HQ := Lib.hid (show bodyL ⟨9, m, n, i, is, t, tok, ⟨ek, em, enn, et⟩⟩ = numL 9 ++ numL i ++ txtL tok ++ numL ek ++ numL em by simp [bodyL, partsOf, Part.lay, h4])
     obtain ⟨q, hq⟩ : ∃ q, bodyL ⟨9, m, n, i, is, t, tok, ⟨ek, em, enn, et⟩⟩ = q := ⟨_, rfl⟩
     rw [hq] at HQ ⊢
     clear hq hk hown
     unfold Sd.v Sd.cells
     dsimp only
     go_enter Tryz.func146, Tryz.ntmps146
     have fM := HM.out.fa
     go_wp2_with fail
     all_goals clear fM
     refine nxt HM fun w0 M => ?_
     clear HM; have HM := M; clear M
     obtain ⟨C, hC, hS⟩ := (HM.out.pick (r := bytR (.slice none 0 0) []) pk).step
     refine (bodyNum_any w0 none 0 [] 9 (by decide) (by decide) hC).mono ?_
     rintro e w1 ⟨v1, rfl, hU⟩
     rw [List.nil_append] at hU
     obtain ⟨l1, hl1⟩ : ∃ x, numL 9 = x := ⟨_, rfl⟩
     have HL1 := Lib.hid (show numL 9 = l1 ∧ l1.length ≤ 1000 from ⟨hl1, by rw [← hl1]; have := numL_len 9; omega⟩)
     rw [hl1] at hU
     obtain ⟨a1, c1, rfl⟩ : ∃ a c, v1 = .slice a l1.length c := let ⟨_, h, _⟩ := hU; bytR.len h
     replace HM := Lib.hid (hS _ _ hU)
     clear hU hS hC hl1
     clear C
     have fM := HM.out.fa
     go_wp2_with fail
     all_goals clear fM
     have hlt : i ≤ 2147483647 := by have := HG.out; omega
     obtain ⟨C, hC, hS⟩ := (HM.out.pick (r := bytR (.slice a1 l1.length c1) l1) pk).step
     have HPL := Lib.hid (numL_len i)
     refine (bodyNum_any _ a1 c1 l1 i (by omega) (by have := HL1.out.2; omega) hC).mono ?_
     rintro e w2 ⟨v2, rfl, hU⟩
     obtain ⟨l2, hl2⟩ : ∃ x, l1 ++ numL i = x := ⟨_, rfl⟩
     have HL2 := Lib.hid (show l1 ++ numL i = l2 ∧ l2.length ≤ 1000 * 2 from ⟨hl2, by rw [← hl2, List.length_append]; have := HL1.out.2; have := HPL.out; omega⟩)
     rw [hl2] at hU
     obtain ⟨a2, c2, rfl⟩ : ∃ a c, v2 = .slice a l2.length c := let ⟨_, h, _⟩ := hU; bytR.len h
     replace HM := Lib.hid (hS _ _ hU)
     clear hU hS hC hl2 HPL
     clear C
     clear hlt
     have fM := HM.out.fa
     go_wp2_with fail
     all_goals clear fM
     refine (rtxtL_any _ tok (by have := HTL.out; omega)).mono ?_
     rintro e wT ⟨vT, rfl, hU⟩
     obtain ⟨hbT, hET⟩ := hU.byt
     have HBT := Lib.hid hbT
     replace HM := Lib.hid (HM.out.ext hET)
     obtain ⟨lT, hlT⟩ : ∃ x, txtL tok = x := ⟨_, rfl⟩
     have HLT := Lib.hid (show txtL tok = lT ∧ lT.length ≤ 900 from ⟨hlT, by rw [← hlT]; unfold txtL; rw [List.length_append]; have := numL_len tok.length; have := HTL.out; omega⟩)
     rw [hlT] at HBT
     obtain ⟨aT, cT, rfl⟩ := HBT.out.len
     clear hU hbT hET hlT
     go_wp2_with (at_builtin; refine standing ?_)
     replace HM := Lib.hid (HM.out.pick (r := bytR (.slice a2 l2.length c2) l2) pk)
     obtain ⟨v3, w3, hr, hm9⟩ := Mem.bytAdd 27 HM.out _ _ HBT.out (by have := HLT.out.2; have := HL2.out.2; omega)
     obtain ⟨l3, hl3⟩ : ∃ x, l2 ++ lT = x := ⟨_, rfl⟩
     have HL3 := Lib.hid (show l2 ++ txtL tok = l3 ∧ l3.length ≤ 1000 * 3 from ⟨by rw [HLT.out.1]; exact hl3, by rw [← hl3, List.length_append]; have := HL2.out.2; have := HLT.out.2; omega⟩)
     rw [hl3] at hm9
     replace HM := Lib.hid hm9
     obtain ⟨a3, c3, rfl⟩ : ∃ a c, v3 = .slice a l3.length c := by
      obtain ⟨A, hb, -⟩ := hm9.byt
      exact hb.len
     refine ⟨?_⟩
     refine wpList_append_ran rfl _ _ hr rfl rfl rfl ?_
     clear hr hm9 hl3 HBT HLT
     have fM := HM.out.fa
     go_wp2_with fail
     all_goals clear fM
     refine nxt HM fun w4 M => ?_
     clear HM; have HM := M; clear M
     obtain ⟨kt, hkt⟩ : ∃ k, w3.heap.size = k := ⟨_, rfl⟩
     rw [hkt] at HM ⊢
     clear hkt
     obtain ⟨C, hC, ha1, -, hS⟩ := HM.out.apart1 (r := bytR (.slice a3 l3.length c3) l3) (b := kt) (by with_reducible repeat first | exact ph | apply pt) (by with_reducible repeat first | exact ph | apply pt)
     have HPL := Lib.hid (numL_len ek)
     have fM := HM.out.fa
     have hE0 : Keeps (C) w4 w4.drew := (Keeps.refl _ _).drew
     refine wp_region_plan [(0, 0), (0, 1), (3, 2), (0, 4), (1, 5), (2, 3)] [5] [3, 6, 7] [6, 7] (ClsK (C) w4) (by kernel_rfl) (by kernel_rfl) (by kernel_rfl) rfl rfl (ClsK.of hE0) (fun _ _ _ d _ h => by cases d <;> exact h) ?_; simp only [planL, nL]
     iterate 5 (first | (refine pM _ rfl rfl ?_; simp only [nP, nE]) | (refine pR (by rfl) (fun W => by go_simp <;> with_reducible rfl) ?_; simp only [nP]) | (refine pX (by rfl) (by go_simp <;> with_reducible rfl) ?_; simp only [nP]) | (refine pK (by rfl) (fun W => by go_simp <;> with_reducible rfl) ?_; simp only [nP]))
     refine plan_does rfl (fun K hK => ?_)
     go_wp2_with fail
     refine (bodyNum_any _ a3 c3 l3 ek (by have := HG2.out; omega) (by have := HL3.out.2; omega) (Res.keeps _ hC (Ext.drew0 w4) (fun _ _ => noB _))).mono ?_
     rintro e w5 ⟨v5, rfl, hU⟩
     have hU2 := hU.pre (Ext.drew0 w4)
     have hE1 := hU2.keepsTo
     clear hU
     refine hK _ _ ⟨ClsK.of (by assumption), ?_⟩; clear hK K; try simp only [nP]
     refine plan_nil ?_; simp only [tailL, List.filterMap_cons, List.filterMap_nil, nL]; change wpList _ _ _ (_ :: _ :: []) _ _
     clear fM
     obtain ⟨l5, hl5⟩ : ∃ x, l3 ++ numL ek = x := ⟨_, rfl⟩
     have HL5 := Lib.hid (show l3 ++ numL ek = l5 ∧ l5.length ≤ 1000 * 5 from ⟨hl5, by rw [← hl5, List.length_append]; have := HL3.out.2; have := HPL.out; omega⟩)
     rw [hl5] at hU2
     obtain ⟨a5, c5, rfl⟩ : ∃ a c, v5 = .slice a l5.length c := let ⟨_, h, _⟩ := hU2; bytR.len h
     replace HM := Lib.hid (hS _ _ hU2)
     clear hU2 hE1 hE0 hS hC ha1 hl5 HPL
     clear C
     have fM := HM.out.fa
     go_wp2_with fail
     all_goals clear fM
     have hlt : em ≤ 2147483647 := by have := HG2.out; omega
     obtain ⟨C, hC, hS⟩ := (HM.out.pick (r := bytR (.slice a5 l5.length c5) l5) pk).step
     have HPL := Lib.hid (numL_len em)
     refine (bodyNum_any _ a5 c5 l5 em (by omega) (by have := HL5.out.2; omega) hC).mono ?_
     rintro e w6 ⟨v6, rfl, hU⟩
     obtain ⟨l6, hl6⟩ : ∃ x, l5 ++ numL em = x := ⟨_, rfl⟩
     have HL6 := Lib.hid (show l5 ++ numL em = l6 ∧ l6.length ≤ 1000 * 6 from ⟨hl6, by rw [← hl6, List.length_append]; have := HL5.out.2; have := HPL.out; omega⟩)
     rw [hl6] at hU
     obtain ⟨a6, c6, rfl⟩ : ∃ a c, v6 = .slice a l6.length c := let ⟨_, h, _⟩ := hU; bytR.len h
     replace HM := Lib.hid (hS _ _ hU)
     clear hU hS hC hl6 HPL
     clear C
     clear hlt
     have fM := HM.out.fa
     go_wp2_with fail
     all_goals clear fM
     go_ret
     refine ⟨_, rfl, ?_⟩
     have hq : q = l6 := by rw [HQ.out]; rw [HL1.out.1, HL2.out.1, HL3.out.1, HL5.out.1, HL6.out.1]
     rw [hq]
     exact (HM.out.pick (r := bytR (.slice a6 l6.length c6) l6) pk).upd
 · skip
   have HQ := Lib.hid (show bodyL ⟨10, m, n, i, is, t, tok, en⟩ = numL 10 ++ numL m ++ truL is by simp [bodyL, partsOf, Part.lay, partsOf])
   obtain ⟨q, hq⟩ : ∃ q, bodyL ⟨10, m, n, i, is, t, tok, en⟩ = q := ⟨_, rfl⟩
   rw [hq] at HQ ⊢
   clear hq hk hown
   unfold Sd.v Sd.cells
   dsimp only
   go_enter Tryz.func146, Tryz.ntmps146
   have fM := HM.out.fa
   go_wp2_with fail
   all_goals clear fM
   refine nxt HM fun w0 M => ?_
   clear HM; have HM := M; clear M
   obtain ⟨C, hC, hS⟩ := (HM.out.pick (r := bytR (.slice none 0 0) []) pk).step
   refine (bodyNum_any w0 none 0 [] 10 (by decide) (by decide) hC).mono ?_
   rintro e w1 ⟨v1, rfl, hU⟩
   rw [List.nil_append] at hU
   obtain ⟨l1, hl1⟩ : ∃ x, numL 10 = x := ⟨_, rfl⟩
   have HL1 := Lib.hid (show numL 10 = l1 ∧ l1.length ≤ 1000 from ⟨hl1, by rw [← hl1]; have := numL_len 10; omega⟩)
   rw [hl1] at hU
   obtain ⟨a1, c1, rfl⟩ : ∃ a c, v1 = .slice a l1.length c := let ⟨_, h, _⟩ := hU; bytR.len h
   replace HM := Lib.hid (hS _ _ hU)
   clear hU hS hC hl1
   clear C
   have fM := HM.out.fa
   go_wp2_with fail
   all_goals clear fM
   have hlt : m ≤ 2147483647 := by have := HG.out; omega
   obtain ⟨C, hC, hS⟩ := (HM.out.pick (r := bytR (.slice a1 l1.length c1) l1) pk).step
   have HPL := Lib.hid (numL_len m)
   refine (bodyNum_any _ a1 c1 l1 m (by omega) (by have := HL1.out.2; omega) hC).mono ?_
   rintro e w2 ⟨v2, rfl, hU⟩
   obtain ⟨l2, hl2⟩ : ∃ x, l1 ++ numL m = x := ⟨_, rfl⟩
   have HL2 := Lib.hid (show l1 ++ numL m = l2 ∧ l2.length ≤ 1000 * 2 from ⟨hl2, by rw [← hl2, List.length_append]; have := HL1.out.2; have := HPL.out; omega⟩)
   rw [hl2] at hU
   obtain ⟨a2, c2, rfl⟩ : ∃ a c, v2 = .slice a l2.length c := let ⟨_, h, _⟩ := hU; bytR.len h
   replace HM := Lib.hid (hS _ _ hU)
   clear hU hS hC hl2 HPL
   clear C
   clear hlt
   have fM := HM.out.fa
   go_wp2_with fail
   all_goals clear fM
   refine (rtruL_any _ is).mono ?_
   rintro e wT ⟨vT, rfl, hU⟩
   obtain ⟨hbT, hET⟩ := hU.byt
   have HBT := Lib.hid hbT
   replace HM := Lib.hid (HM.out.ext hET)
   obtain ⟨lT, hlT⟩ : ∃ x, truL is = x := ⟨_, rfl⟩
   have HLT := Lib.hid (show truL is = lT ∧ lT.length ≤ 900 from ⟨hlT, by rw [← hlT]; cases is <;> decide⟩)
   rw [hlT] at HBT
   obtain ⟨aT, cT, rfl⟩ := HBT.out.len
   clear hU hbT hET hlT
   go_wp2_with (at_builtin; refine standing ?_)
   replace HM := Lib.hid (HM.out.pick (r := bytR (.slice a2 l2.length c2) l2) pk)
   obtain ⟨v3, w3, hr, hm9⟩ := Mem.bytAdd 27 HM.out _ _ HBT.out (by have := HLT.out.2; have := HL2.out.2; omega)
   obtain ⟨l3, hl3⟩ : ∃ x, l2 ++ lT = x := ⟨_, rfl⟩
   have HL3 := Lib.hid (show l2 ++ truL is = l3 ∧ l3.length ≤ 1000 * 3 from ⟨by rw [HLT.out.1]; exact hl3, by rw [← hl3, List.length_append]; have := HL2.out.2; have := HLT.out.2; omega⟩)
   rw [hl3] at hm9
   replace HM := Lib.hid hm9
   obtain ⟨a3, c3, rfl⟩ : ∃ a c, v3 = .slice a l3.length c := by
    obtain ⟨A, hb, -⟩ := hm9.byt
    exact hb.len
   refine ⟨?_⟩
   refine wpList_append_ran rfl _ _ hr rfl rfl rfl ?_
   clear hr hm9 hl3 HBT HLT
   have fM := HM.out.fa
   go_wp2_with fail
   all_goals clear fM
   go_ret
   refine ⟨_, rfl, ?_⟩
   have hq : q = l3 := by rw [HQ.out]; rw [HL1.out.1]; rw [HL2.out.1]; rw [HL3.out.1]
   rw [hq]
   exact (HM.out.pick (r := bytR (.slice a3 l3.length c3) l3) pk).upd
 · skip
   have HQ := Lib.hid (show bodyL ⟨11, m, n, i, is, t, tok, en⟩ = numL 11 ++ numL m ++ truL is by simp [bodyL, partsOf, Part.lay, partsOf])
   obtain ⟨q, hq⟩ : ∃ q, bodyL ⟨11, m, n, i, is, t, tok, en⟩ = q := ⟨_, rfl⟩
   rw [hq] at HQ ⊢
   clear hq hk hown
   unfold Sd.v Sd.cells
   dsimp only
   go_enter Tryz.func146, Tryz.ntmps146
   have fM := HM.out.fa
   go_wp2_with fail
   all_goals clear fM
   refine nxt HM fun w0 M => ?_
   clear HM; have HM := M; clear M
   obtain ⟨C, hC, hS⟩ := (HM.out.pick (r := bytR (.slice none 0 0) []) pk).step
   refine (bodyNum_any w0 none 0 [] 11 (by decide) (by decide) hC).mono ?_
   rintro e w1 ⟨v1, rfl, hU⟩
   rw [List.nil_append] at hU
   obtain ⟨l1, hl1⟩ : ∃ x, numL 11 = x := ⟨_, rfl⟩
   have HL1 := Lib.hid (show numL 11 = l1 ∧ l1.length ≤ 1000 from ⟨hl1, by rw [← hl1]; have := numL_len 11; omega⟩)
   rw [hl1] at hU
   obtain ⟨a1, c1, rfl⟩ : ∃ a c, v1 = .slice a l1.length c := let ⟨_, h, _⟩ := hU; bytR.len h
   replace HM := Lib.hid (hS _ _ hU)
   clear hU hS hC hl1
   clear C
   have fM := HM.out.fa
   go_wp2_with fail
   all_goals clear fM
   have hlt : m ≤ 2147483647 := by have := HG.out; omega
   obtain ⟨C, hC, hS⟩ := (HM.out.pick (r := bytR (.slice a1 l1.length c1) l1) pk).step
   have HPL := Lib.hid (numL_len m)
   refine (bodyNum_any _ a1 c1 l1 m (by omega) (by have := HL1.out.2; omega) hC).mono ?_
   rintro e w2 ⟨v2, rfl, hU⟩
   obtain ⟨l2, hl2⟩ : ∃ x, l1 ++ numL m = x := ⟨_, rfl⟩
   have HL2 := Lib.hid (show l1 ++ numL m = l2 ∧ l2.length ≤ 1000 * 2 from ⟨hl2, by rw [← hl2, List.length_append]; have := HL1.out.2; have := HPL.out; omega⟩)
   rw [hl2] at hU
   obtain ⟨a2, c2, rfl⟩ : ∃ a c, v2 = .slice a l2.length c := let ⟨_, h, _⟩ := hU; bytR.len h
   replace HM := Lib.hid (hS _ _ hU)
   clear hU hS hC hl2 HPL
   clear C
   clear hlt
   have fM := HM.out.fa
   go_wp2_with fail
   all_goals clear fM
   refine (rtruL_any _ is).mono ?_
   rintro e wT ⟨vT, rfl, hU⟩
   obtain ⟨hbT, hET⟩ := hU.byt
   have HBT := Lib.hid hbT
   replace HM := Lib.hid (HM.out.ext hET)
   obtain ⟨lT, hlT⟩ : ∃ x, truL is = x := ⟨_, rfl⟩
   have HLT := Lib.hid (show truL is = lT ∧ lT.length ≤ 900 from ⟨hlT, by rw [← hlT]; cases is <;> decide⟩)
   rw [hlT] at HBT
   obtain ⟨aT, cT, rfl⟩ := HBT.out.len
   clear hU hbT hET hlT
   go_wp2_with (at_builtin; refine standing ?_)
   replace HM := Lib.hid (HM.out.pick (r := bytR (.slice a2 l2.length c2) l2) pk)
   obtain ⟨v3, w3, hr, hm9⟩ := Mem.bytAdd 27 HM.out _ _ HBT.out (by have := HLT.out.2; have := HL2.out.2; omega)
   obtain ⟨l3, hl3⟩ : ∃ x, l2 ++ lT = x := ⟨_, rfl⟩
   have HL3 := Lib.hid (show l2 ++ truL is = l3 ∧ l3.length ≤ 1000 * 3 from ⟨by rw [HLT.out.1]; exact hl3, by rw [← hl3, List.length_append]; have := HL2.out.2; have := HLT.out.2; omega⟩)
   rw [hl3] at hm9
   replace HM := Lib.hid hm9
   obtain ⟨a3, c3, rfl⟩ : ∃ a c, v3 = .slice a l3.length c := by
    obtain ⟨A, hb, -⟩ := hm9.byt
    exact hb.len
   refine ⟨?_⟩
   refine wpList_append_ran rfl _ _ hr rfl rfl rfl ?_
   clear hr hm9 hl3 HBT HLT
   have fM := HM.out.fa
   go_wp2_with fail
   all_goals clear fM
   go_ret
   refine ⟨_, rfl, ?_⟩
   have hq : q = l3 := by rw [HQ.out]; rw [HL1.out.1]; rw [HL2.out.1]; rw [HL3.out.1]
   rw [hq]
   exact (HM.out.pick (r := bytR (.slice a3 l3.length c3) l3) pk).upd
 · skip
   have HQ := Lib.hid (show bodyL ⟨12, m, n, i, is, t, tok, en⟩ = numL 12 ++ numL n by simp [bodyL, partsOf, Part.lay, partsOf])
   obtain ⟨q, hq⟩ : ∃ q, bodyL ⟨12, m, n, i, is, t, tok, en⟩ = q := ⟨_, rfl⟩
   rw [hq] at HQ ⊢
   clear hq hk hown
   unfold Sd.v Sd.cells
   dsimp only
   go_enter Tryz.func146, Tryz.ntmps146
   have fM := HM.out.fa
   go_wp2_with fail
   all_goals clear fM
   refine nxt HM fun w0 M => ?_
   clear HM; have HM := M; clear M
   obtain ⟨C, hC, hS⟩ := (HM.out.pick (r := bytR (.slice none 0 0) []) pk).step
   refine (bodyNum_any w0 none 0 [] 12 (by decide) (by decide) hC).mono ?_
   rintro e w1 ⟨v1, rfl, hU⟩
   rw [List.nil_append] at hU
   obtain ⟨l1, hl1⟩ : ∃ x, numL 12 = x := ⟨_, rfl⟩
   have HL1 := Lib.hid (show numL 12 = l1 ∧ l1.length ≤ 1000 from ⟨hl1, by rw [← hl1]; have := numL_len 12; omega⟩)
   rw [hl1] at hU
   obtain ⟨a1, c1, rfl⟩ : ∃ a c, v1 = .slice a l1.length c := let ⟨_, h, _⟩ := hU; bytR.len h
   replace HM := Lib.hid (hS _ _ hU)
   clear hU hS hC hl1
   clear C
   have fM := HM.out.fa
   go_wp2_with fail
   all_goals clear fM
   have hlt : n ≤ 2147483647 := by have := HG.out; omega
   obtain ⟨C, hC, hS⟩ := (HM.out.pick (r := bytR (.slice a1 l1.length c1) l1) pk).step
   have HPL := Lib.hid (numL_len n)
   refine (bodyNum_any _ a1 c1 l1 n (by omega) (by have := HL1.out.2; omega) hC).mono ?_
   rintro e w2 ⟨v2, rfl, hU⟩
   obtain ⟨l2, hl2⟩ : ∃ x, l1 ++ numL n = x := ⟨_, rfl⟩
   have HL2 := Lib.hid (show l1 ++ numL n = l2 ∧ l2.length ≤ 1000 * 2 from ⟨hl2, by rw [← hl2, List.length_append]; have := HL1.out.2; have := HPL.out; omega⟩)
   rw [hl2] at hU
   obtain ⟨a2, c2, rfl⟩ : ∃ a c, v2 = .slice a l2.length c := let ⟨_, h, _⟩ := hU; bytR.len h
   replace HM := Lib.hid (hS _ _ hU)
   clear hU hS hC hl2 HPL
   clear C
   clear hlt
   have fM := HM.out.fa
   go_wp2_with fail
   all_goals clear fM
   go_ret
   refine ⟨_, rfl, ?_⟩
   have hq : q = l2 := by rw [HQ.out]; rw [HL1.out.1]; rw [HL2.out.1]
   rw [hq]
   exact (HM.out.pick (r := bytR (.slice a2 l2.length c2) l2) pk).upd
end
section
theorem body_len (s : Sd) (hb : sdB s = true) : (bodyL s).length ≤ 470 := by
 rw [← right_eq] at hb
 simp only [Bool.and_eq_true, decide_eq_true_eq] at hb
 obtain ⟨⟨⟨hk, -⟩, hbd⟩, hown⟩ := hb
 obtain ⟨g1, g2, g3, g4, g5, g6, g7⟩ := (bnd_iff s).1 hbd
 obtain ⟨k, m, n, i, is, t, tok, en⟩ := s
 dsimp only at hk g7
 have n1 := (numL_len m.toNat).2
 have n2 := (numL_len n.toNat).2
 have n3 := (numL_len i.toNat).2
 have n4 := (numL_len tok.length).2
 have n5 := (numL_len t.length).2
 have n6 := (numL_len en.kind.toNat).2
 have n7 := (numL_len en.member.toNat).2
 have n8 := (numL_len en.number.toNat).2
 have n9 := (numL_len en.text.length).2
 have n10 := (numL_len k.toNat).2
 have hT : (truL is).length = 1 := by cases is <;> rfl
 clear hbd g1 g2 g3 g4 g5 g6
 have h4 : k = 4 → t.length ≤ 200 := by
  intro h
  subst h
  have : 1 ≤ n ∧ chk t = 0 := by simpa [ownB] using hown
  exact chk_200 this.2
 have h9 : k = 9 → en.kind = 4 → en.text.length ≤ 200 := by
  intro h h2
  subst h
  have hen : enB en = true ∧ ¬ en.kind = 1 := by simpa [ownB] using hown
  exact ((enB_bounds hen.2 hen.1).2.2 h2).2.2
 clear hown
 unfold bodyL
 dsimp only
 obtain rfl | rfl | rfl | rfl | rfl | rfl | rfl | rfl | rfl | rfl | rfl | rfl : k = 1 ∨ k = 2 ∨ k = 3 ∨ k = 4 ∨ k = 5 ∨ k = 6 ∨ k = 7 ∨ k = 8 ∨ k = 9 ∨ k = 10 ∨ k = 11 ∨ k = 12 := by omega
 all_goals
  simp only [List.length_append]
  simp [partsOf, Part.lay, txtL]
  try split
  all_goals (simp_all; try omega)
theorem frame_len {l : List UInt8} (h : l.length ≤ 470) : (frameL l).length ≤ 484 := by
 have := (numL_len (l.length + 4)).2
 have := sealL_len l
 unfold frameL
 rw [List.length_append]
 omega
theorem docRaw_any (w : World) (s : Sd) (hb : sdB s = true) (hl : s.text.length ≤ 300 ∧ s.e.text.length ≤ 300 ∧ s.token.length ≤ 300) :
 Calls Tryz.prog 87 #[s.v] w fun e w' => ∃ v', e = .returned v' ∧ Upd NoB w w' (bytR v' (frameL (bodyL s))) := by
 have HM := Lib.hid (Mem.start0 w)
 have HBL := Lib.hid (body_len s hb)
 have HB := Lib.hid hb
 have HL := Lib.hid hl
 have HV := Lib.hid (show s.v = .agg s.cells.toArray from rfl)
 clear hb hl
 unfold Sd.v Sd.cells
 go_enter Tryz.func87, Tryz.ntmps87
 have fM := HM.out.fa
 go_wp2_with fail
 all_goals clear fM
 refine nxt HM fun w1 M => ?_
 clear HM; have HM := M; clear M
 refine (docBody_any w1 s HB.out HL.out).mono ?_
 rintro e w2 ⟨v2, rfl, hU⟩
 obtain ⟨hb2, hE2⟩ := hU.byt
 have HB2 := Lib.hid hb2
 replace HM := Lib.hid (HM.out.ext hE2)
 clear hU hb2 hE2
 have fM := HM.out.fa
 go_wp2_with fail
 all_goals clear fM
 refine (rframe_any w2 v2 _ HB2.out (by have := HBL.out; omega)).mono ?_
 rintro e w3 ⟨v3, rfl, hU⟩
 obtain ⟨F2, u1, u2, u3⟩ := hU
 replace HM := Lib.hid (HM.out.new (r := bytR v3 (frameL (bodyL s))) (G := F2) u2 u1 (fun k hk => (u3 k hk).elim (fun h => (noB _ h).elim) id))
 clear u1 u2 u3
 clear F2
 have fM := HM.out.fa
 go_wp2_with fail
 all_goals clear fM
 go_ret
 exact ⟨_, rfl, (HM.out.pick (r := bytR v3 (frameL (bodyL s))) pk).upd⟩
end
section
open Go.RowKit Go.ChangeShapes Go.WideShapes
theorem cellsI : Tryz.prog.cellsOf 3 = 1 := by kernel_rfl
theorem cellsI64 : Tryz.prog.cellsOf 2 = 1 := by kernel_rfl
theorem cellsS : Tryz.prog.cellsOf 9 = 1 := by kernel_rfl
theorem cellsBo : Tryz.prog.cellsOf 4 = 1 := by kernel_rfl
theorem cellsEK : Tryz.prog.cellsOf 33 = 1 := by kernel_rfl
theorem cellsSK : Tryz.prog.cellsOf 32 = 1 := by kernel_rfl
theorem cellsEn : Tryz.prog.cellsOf 35 = 4 := by kernel_rfl
theorem cellsSd : Tryz.prog.cellsOf 37 = 11 := by kernel_rfl
theorem i64_of {n : Int} (h : (Lit.int .i64 n).wf = true) : I64 n := by
 unfold I64
 simp [Lit.wf, IntKind.min, IntKind.max, IntKind.signed, IntKind.bits] at h
 omega
theorem list4 {cs : List Value} (h : cs.length = 4) : ∃ a b c d, cs = [a, b, c, d] := by
 match cs, h with
 | [a, b, c, d], _ => exact ⟨a, b, c, d, rfl⟩
theorem list11 {cs : List Value} (h : cs.length = 11) : ∃ a b c d e f g i j k l, cs = [a, b, c, d, e, f, g, i, j, k, l] := by
 match cs, h with
 | [a, b, c, d, e, f, g, i, j, k, l], _ => exact ⟨a, b, c, d, e, f, g, i, j, k, l, rfl⟩
section
variable {H : Type} {enc : TypeId × Value → H} {w : World}
theorem rd_en : Rd enc Tryz.prog w 35 fun cs (e : En) => cs = e.cells ∧ I64 e.kind ∧ e.text.length ≤ 9223372036854775807 := fun fuel cs x h => by
 obtain ⟨hl, hf⟩ := rd_field Tryz.underlying35 h
 rw [cellsEn] at hl
 obtain ⟨c0, c1, c2, c3, rfl⟩ := list4 hl
 obtain ⟨k0, h0, g0⟩ := hf 0 _ 0 1 rfl rfl cellsEK (rd_int Tryz.underlying33)
 obtain ⟨k1, h1, g1⟩ := hf 1 _ 1 1 rfl rfl cellsI (rd_int Tryz.underlying3)
 obtain ⟨k2, h2, g2⟩ := hf 2 _ 2 1 rfl rfl cellsI64 (rd_int Tryz.underlying2)
 obtain ⟨l, h3, g3⟩ := hf 3 _ 3 1 rfl rfl cellsS (rd_string Tryz.underlying9)
 simp at h0 h1 h2 h3
 exact ⟨⟨k0, k1, k2, l⟩, by rw [h0, h1, h2, h3]; rfl, i64_of g0, by omega⟩
theorem rd_sd : Rd enc Tryz.prog w 37 fun cs (x : Sd) => cs = x.cells ∧ OkS x ∧ I64 x.kind := fun fuel cs x h => by
 obtain ⟨hl, hf⟩ := rd_field Tryz.underlying37 h
 rw [cellsSd] at hl
 obtain ⟨c0, c1, c2, c3, c4, c5, c6, c7, c8, c9, c10, rfl⟩ := list11 hl
 obtain ⟨k0, h0, g0⟩ := hf 0 _ 0 1 rfl rfl cellsSK (rd_int Tryz.underlying32)
 obtain ⟨k1, h1, g1⟩ := hf 1 _ 1 1 rfl rfl cellsI (rd_int Tryz.underlying3)
 obtain ⟨k2, h2, g2⟩ := hf 2 _ 2 1 rfl rfl cellsI64 (rd_int Tryz.underlying2)
 obtain ⟨k3, h3, g3⟩ := hf 3 _ 3 1 rfl rfl cellsI64 (rd_int Tryz.underlying2)
 obtain ⟨b4, h4⟩ := hf 4 _ 4 1 rfl rfl cellsBo (rd_bool Tryz.underlying4)
 obtain ⟨l5, h5, g5⟩ := hf 5 _ 5 1 rfl rfl cellsS (rd_string Tryz.underlying9)
 obtain ⟨l6, h6, g6⟩ := hf 6 _ 6 1 rfl rfl cellsS (rd_string Tryz.underlying9)
 obtain ⟨e, h7, g7, g8⟩ := hf 7 _ 7 4 rfl rfl cellsEn rd_en
 simp [En.cells] at h0 h1 h2 h3 h4 h5 h6 h7
 obtain ⟨h7, h8, h9, h10⟩ := h7
 exact ⟨⟨k0, k1, k2, k3, b4, l5, l6, e⟩, by rw [h0, h1, h2, h3, h4, h5, h6, h7, h8, h9, h10], ⟨g7, by dsimp only; omega, by dsimp only; omega, g8⟩, i64_of g0⟩
end
end
section

end
section
def Part.slot : Part → Nat
 | .member => 0
 | .number _ => 1
 | .index => 2
 | .is => 3
 | .said => 4
 | .token => 5
 | .entry => 6
theorem partsOf_nodup (k : Int) : (((partsOf k).getD []).map Part.slot).Nodup := by
 by_cases hk : 1 ≤ k ∧ k ≤ 12
 · obtain rfl | rfl | rfl | rfl | rfl | rfl | rfl | rfl | rfl | rfl | rfl | rfl : k = 1 ∨ k = 2 ∨ k = 3 ∨ k = 4 ∨ k = 5 ∨ k = 6 ∨ k = 7 ∨ k = 8 ∨ k = 9 ∨ k = 10 ∨ k = 11 ∨ k = 12 := by omega
   all_goals decide
 · have : partsOf k = none := by
    unfold partsOf
    simp only [show ¬ k = 1 by omega, show ¬ k = 2 by omega, show ¬ k = 3 by omega, show ¬ k = 4 by omega, show ¬ k = 5 by omega, show ¬ k = 6 by omega, show ¬ k = 7 by omega, show ¬ k = 8 by omega, show ¬ k = 9 by omega, show ¬ k = 10 by omega, show ¬ k = 11 by omega, show ¬ k = 12 by omega, if_false]
   rw [this]
   decide
end
section

end
section
instance gl9 (J : Act → World → Prop) (a : Act) (w : World) : Gl (Met J a w) (fun w => Met J a w) w := ⟨id⟩
end
section

end
end Go.Proofs.YtoadjbgpfihoiaaGreatDoor
