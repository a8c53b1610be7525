/- The judge of nothing. No condition. -/
import Derived.Test.YthhdgjofagdjeaaDoorJN
set_option linter.unusedVariables false
set_option linter.unusedSimpArgs false
set_option maxHeartbeats 1000000
set_option maxRecDepth 100000
namespace Go.Proofs.YthhdgjofagdjeaaDoor
open Go.RowKit

def J0 (c m : Int) : JA := ⟨c, m, T0, List.replicate 9 0, List.replicate 16 (-1), [], 0⟩
def J0k (c m : Int) (k : Nat) : JA := ⟨c, m, T0, List.replicate 9 0, List.replicate k (-1) ++ List.replicate (16 - k) 0, [], 0⟩
theorem infoMap72 : Tryd.prog.underlying 72 = some (.map 35 4) := Tryd.underlying72
theorem build_judge (w : World) (c m : Int) (tb mb : Nat) : (Instr.build 76 #[(1, .int .i64 c), (2, .int .i64 m), (3, .pointer (some ⟨tb, 0, none⟩)), (4, .map (some mb))]).run Tryd.prog w = .ok (.agg ((J0k c m 0).cells tb mb).toArray) w := by kernel_rfl
theorem J0k_set (c m : Int) (k : Nat) (hk : k < 16) (tb mb : Nat) : ((J0k c m k).cells tb mb).set (9 + k) (.int .i64 (-1)) = (J0k c m (k + 1)).cells tb mb := by
  obtain rfl | rfl | rfl | rfl | rfl | rfl | rfl | rfl | rfl | rfl | rfl | rfl | rfl | rfl | rfl | rfl : k = 0 ∨ k = 1 ∨ k = 2 ∨ k = 3 ∨ k = 4 ∨ k = 5 ∨ k = 6 ∨ k = 7 ∨ k = 8 ∨ k = 9 ∨ k = 10 ∨ k = 11 ∨ k = 12 ∨ k = 13 ∨ k = 14 ∨ k = 15 := by omega
  all_goals rfl
theorem judge_new_ok (w : World) (c m : Int) (hc : RightC c) (h1 : 1 ≤ m) (h2 : m ≤ 16) :
    Calls Tryd.prog 11 #[.int .i64 c, .int .i64 m] w fun e w' => ∃ b F, e = .returned (.tuple #[.pointer (some ⟨b, 0, none⟩), .int .i64 0]) ∧ JudgeX w' F b (J0 c m) ∧ Ext w w' ∧ ∀ k, F k → w.heap.size ≤ k := by
  have g1 : ¬ m < 1 := by omega
  have g2 : ¬ 16 < m := by omega
  go_enter Tryd.func11, Tryd.ntmps11
  go_wp2_with fail
  refine (check_any w c).mono ?_
  rintro e w1 ⟨rfl, hE⟩
  have HE := Lib.hid hE
  clear hE
  rw [if_pos hc]
  go_wp2_with fail
  refine (talk_new w1).mono ?_
  rintro e w2 ⟨tb, Ft, rfl, hT, hE2, hF⟩
  have HT := Lib.hid hT
  have HE2 := Lib.hid hE2
  have HF := Lib.hid hF
  clear hT hE2 hF g1 g2
  have hmm := run_makeMap (P := Tryd.prog) 72 w2
  go_wp2_with first
    | (refine wpList_build_wide 76 (v := .agg ((J0k c m 0).cells tb w2.heap.size).toArray) rfl rfl (build_judge _ c m tb w2.heap.size) ?_)
    | (refine wpList_box_wide 76 (vs := (J0k c m 0).cells tb w2.heap.size) _ rfl rfl rfl ?_; intro w3 hB3 hE3 hs3; refine standing ?_)
  have hB4 : Box w3 (w2.heap.size + 1) 76 ((J0k c m 0).cells tb w2.heap.size) := by simpa using hB3
  have hE23 : Ext w2 w3 := ((Keeps.refl NoB w2).alloc _).ext hE3
  have hM := (enset_new w2).ext hE3
  have HTL := Lib.hid (show ∀ k, Ft k → k < w2.heap.size from let ⟨_, h⟩ := HT.out; h.lt)
  replace HT := Lib.hid (HT.out.ext hE23)
  have HEE := Lib.hid ((HE.out.ext HE2.out).ext hE23)
  obtain ⟨mb, hmb⟩ : ∃ mb, w2.heap.size = mb := ⟨_, rfl⟩
  have HMB := Lib.hid hmb
  rw [hmb] at hB4 hM ⊢
  have HB := Lib.hid hB4
  have HM := Lib.hid hM
  have H3 := Lib.hid hs3
  clear hB3 hE3 hs3 hB4 hE23 hM hmm hmb
  refine ⟨?_⟩
  go_wp2_with fail
  have HR : Hid (Box w3 (mb + 1) 76 ((J0k c m 0).cells tb mb) ∧ Keeps (OneB (mb + 1)) w3 w3) := Lib.hid ⟨HB.out, Keeps.refl _ _⟩
  clear HB
  go_loopw [31] (fun i wr => ∃ k : Nat, k ≤ 16 ∧ i = .int .i64 k ∧ Hid (Box wr (mb + 1) 76 ((J0k c m k).cells tb mb) ∧ Keeps (OneB (mb + 1)) w3 wr)) (fun i _ => 16 - (intOf i).toNat)
  case atStart => exact ⟨0, Nat.zero_le _, rfl, HR⟩
  case round =>
    obtain ⟨k, hk, rfl, hh⟩ := hrel
    obtain ⟨hb, hkk⟩ := hh.out
    have HB := Lib.hid hb
    have HK := Lib.hid hkk
    clear hh hb hkk HR
    by_cases hlt : k < 16
    · have z0 := HB.out.reads.2
      have l0 := HB.out.lt
      have c0 : ∃ u, wr.cell? ⟨mb + 1, 9 + k, none⟩ = some u := by
        rw [HB.out.reads.1]
        exact ⟨_, (JA.at (J0k c m k) tb mb rfl (by simp [J0k]; omega)).2.1 k hlt⟩
      obtain ⟨u, hu⟩ := c0
      have g3 : (k : Int) < 16 := by omega
      have g4 : ¬ (k : Int) < 0 := by omega
      go_wp2_with fail
      go_roundw
      case rel => exact ⟨k + 1, by omega, by go_num, Lib.hid ⟨by have h := HB.out.set (9 + k) (.int .i64 (-1)); rw [J0k_set _ _ _ hlt] at h; exact h, HK.out.setOne _ _⟩⟩
      case measure => simp [intOf]; omega
    · obtain rfl : k = 16 := by omega
      go_wp2_with fail
      go_ret2
      have s1 := HE.out.size
      have s2 := HE2.out.size
      have s3 : w3.heap.size = mb + 1 + 1 := by have h := H3.out; rw [← HMB.out]; simpa using h
      have s4 := HK.out.size
      have s5 := HMB.out
      have tl := HTL.out
      have hf := HF.out
      refine ⟨mb + 1, fun k => Ft k ∨ k = mb ∨ k = mb + 1, rfl, ⟨Ft, tb, mb, ⟨HB.out, HT.out.keeps HK.out (fun k hk h => ?_), HM.out.keeps HK.out (fun h => ?_), .inr (.inr rfl), .inr (.inl rfl), fun k hk => .inl hk, fun h => ?_, fun h => ?_, by omega, fun k hk => ?_, rfl, rfl⟩⟩, HEE.out.then HK.out (fun i hi h => ?_), fun k hk => ?_⟩
      · have := tl k hk; have h9 : k = mb + 1 := h; omega
      · have h9 : mb = mb + 1 := h; omega
      · have := tl _ h; omega
      · have := tl _ h; omega
      · rcases hk with hk | hk | hk
        · have := tl k hk; omega
        · omega
        · omega
      · have h9 : i = mb + 1 := h; omega
      · rcases hk with hk | hk | hk
        · have := hf k hk; omega
        · omega
        · omega
end Go.Proofs.YthhdgjofagdjeaaDoor
