/- Texts UA, one behind the other. Conditions: as each says. -/
import Derived.Test.YtoadjbgpfihoiaaGreatDoorPlO
set_option linter.unusedVariables false
set_option linter.unusedSimpArgs false
set_option maxHeartbeats 8000000
set_option maxRecDepth 100000
namespace Go.Proofs.YtoadjbgpfihoiaaGreatDoor
open Go.RowKit
section
open Go.RowKit Go.Shelf Go.Lib
def qUA0 : List (Nat × Nat) := [(0, 0), (0, 1), (0, 2), (0, 3), (0, 4), (3, 5), (0, 6), (0, 7), (0, 8), (0, 9), (0, 10), (3, 11), (0, 12), (0, 13), (0, 14)]
def qUA1 : List (Nat × Nat) := [(0, 0), (0, 1), (0, 2), (0, 3), (0, 4), (3, 5), (0, 6), (0, 7), (0, 8), (0, 9), (0, 10), (3, 11), (0, 12), (0, 13), (0, 14), (0, 15), (0, 16), (3, 17), (0, 18), (0, 19), (0, 20)]
theorem morec_any (w : World) (c : UInt8) : Calls Tryz.prog 278 #[.int .u8 c.toNat] w fun e w' => e = .returned (.bool (decide (c.toNat / 64 = 2))) ∧ w' = w := by
 have hc := c.toNat_lt; by_cases h : c.toNat / 64 = 2
 · have g1 : (128 : Int) ≤ (c.toNat : Int) := by omega
   have g2 : (c.toNat : Int) < 192 := by omega
   rw [decide_eq_true h]; go_enter Tryz.func278, Tryz.ntmps278
   go_wp2_with fail; go_ret; exact ⟨rfl, rfl⟩
 · rw [decide_eq_false h]
   by_cases h1 : c.toNat < 128
   · have g1 : ¬ (128 : Int) ≤ (c.toNat : Int) := by omega
     go_enter Tryz.func278, Tryz.ntmps278
     go_wp2_with fail; go_ret; exact ⟨rfl, rfl⟩
   · have g1 : (128 : Int) ≤ (c.toNat : Int) := by omega
     have g2 : ¬ (c.toNat : Int) < 192 := by omega
     go_enter Tryz.func278, Tryz.ntmps278
     go_wp2_with fail; go_ret; exact ⟨rfl, rfl⟩
theorem w64 {x y : Int} (h : x = y) (h0 : 0 ≤ y) (h1 : y < 9223372036854775808) : wrap64 x = y := by subst h; unfold wrap64; omega
theorem index_bs (l : List UInt8) (i : Nat) (h : i < l.length) (W : World) : (Instr.index 9 (.string (bs l)) (.int .i64 (i : Int))).run Tryz.prog W = .ok (.int .u8 ((l.getD i 0).toNat : Int)) W := by
 rw [run_index_string W _ _ _ _ Tryz.underlying9, dif_pos ⟨by omega, by rw [bs_size]; omega⟩]; congr 3
 rw [List.getD_eq_getElem?_getD, List.getElem?_eq_getElem h]; rfl
theorem more_nat (w : World) (n : Nat) (h : n < 256) : Calls Tryz.prog 278 #[.int .u8 (n : Int)] w fun e w' => e = .returned (.bool (decide (n / 64 = 2))) ∧ w' = w := by
 obtain ⟨c, rfl⟩ : ∃ c : UInt8, n = c.toNat := ⟨UInt8.ofNat n, by simp; omega⟩; exact morec_any w c
theorem sign_core (w : World) (l : List UInt8) (a b c d : Nat) (HBa : Hid (a < 256)) (HBb : Hid (b < 256)) (HBc : Hid (c < 256)) (HBd : Hid (d < 256)) (h0 : 0 < l.length)
 (HS : Hid (sgn l = if decodeN l.length a b c d = (65533, 1) then (0, 0) else decodeN l.length a b c d))
 (HI0 : Hid (0 < l.length → ∀ W, (Instr.index 9 (.string (bs l)) (.int .i64 0)).run Tryz.prog W = .ok (.int .u8 (a : Int)) W))
 (HI1 : Hid (1 < l.length → ∀ W, (Instr.index 9 (.string (bs l)) (.int .i64 1)).run Tryz.prog W = .ok (.int .u8 (b : Int)) W))
 (HI2 : Hid (2 < l.length → ∀ W, (Instr.index 9 (.string (bs l)) (.int .i64 2)).run Tryz.prog W = .ok (.int .u8 (c : Int)) W))
 (HI3 : Hid (3 < l.length → ∀ W, (Instr.index 9 (.string (bs l)) (.int .i64 3)).run Tryz.prog W = .ok (.int .u8 (d : Int)) W)) :
 Calls Tryz.prog 228 #[.string (bs l)] w fun e w' => e = .returned (.tuple #[.int .i64 ((sgn l).1 : Int), .int .i64 ((sgn l).2 : Int)]) ∧ Ext w w' := by
 have hba := HBa.out; have hbb := HBb.out; have hbc := HBc.out; have hbd := HBd.out; have hsz := bs_size l; by_cases hA : a < 128
 · have hA' := hA
   have hd : decodeN l.length a b c d = (a, 1) := by
    unfold decodeN; rw [if_pos hA]
   have hq : sgn l = (a, 1) := by
    rw [HS.out, hd, if_neg (fun h => by have := congrArg Prod.fst h; simp at this; omega)]
   clear hd; have HQ := Hd hq; clear hq; have g1 : (a : Int) < 128 := by omega
   have hi0 := HI0.out (by omega); clear h0; have ka : (a : Int) < 256 := by omega
   try clear hA
   try clear hA2
   try clear hA3
   try clear hA4
   try clear hA5
   try clear hA'
   try clear hL
   try clear hB
   try clear hC
   try clear hD
   try clear hN
   try clear hM
   try clear hO
   clear hba hbb hbc hbd; go_enter Tryz.func228, Tryz.ntmps228
   go_wp2_with fail; go_ret2
   rw [HQ.out]; first | exact ⟨rfl, Keeps.refl _ _⟩ | exact ⟨rfl, Ext.drew0 _⟩
 by_cases hA2 : a < 192
 · have hA' := hA2
   have hd : decodeN l.length a b c d = (65533, 1) := by
    unfold decodeN; rw [if_neg (by omega), if_neg (by omega), if_neg (by omega), if_neg (by omega)]
   have hq : sgn l = (0, 0) := by
    rw [HS.out, hd, if_pos rfl]
   clear hd; have HQ := Hd hq; clear hq; have g1 : ¬ (a : Int) < 128 := by omega
   have g2 : ¬ (192 : Int) ≤ (a : Int) := by omega
   have g3 : ¬ (224 : Int) ≤ (a : Int) := by omega
   have g4 : ¬ (240 : Int) ≤ (a : Int) := by omega
   have hi0 := HI0.out (by omega); clear h0; have ka : (a : Int) < 256 := by omega
   try clear hA
   try clear hA2
   try clear hA3
   try clear hA4
   try clear hA5
   try clear hA'
   try clear hL
   try clear hB
   try clear hC
   try clear hD
   try clear hN
   try clear hM
   try clear hO
   clear hba hbb hbc hbd; go_enter Tryz.func228, Tryz.ntmps228
   go_wp2_with fail; go_ret2
   rw [HQ.out]; first | exact ⟨rfl, Keeps.refl _ _⟩ | exact ⟨rfl, Ext.drew0 _⟩
 by_cases hA3 : a < 224
 · by_cases hL : 2 ≤ l.length
   · by_cases hB : b / 64 = 2
     · have HB := Hd hB
       obtain ⟨p, hnp⟩ : ∃ p : Nat, a = p + 192 := ⟨a - 192, by omega⟩; obtain ⟨b1, hnb1⟩ : ∃ b1 : Nat, b = b1 + 128 := ⟨b - 128, by omega⟩; obtain ⟨q, hnq⟩ : ∃ q : Nat, q = p * 64 := ⟨_, rfl⟩; obtain ⟨r, hnr⟩ : ∃ r : Nat, r = q + b := ⟨_, rfl⟩; obtain ⟨n, hnn⟩ : ∃ n : Nat, n = q + b1 := ⟨_, rfl⟩; by_cases hN : 128 ≤ n
       · skip
         have hd : decodeN l.length a b c d = (n, 2) := by
          unfold decodeN; rw [if_neg (by omega), if_pos ⟨by omega, by omega, hB⟩, if_pos (by omega)]; exact Prod.ext (by show _ = n; omega) rfl
         have hq : sgn l = (n, 2) := by
          rw [HS.out, hd, if_neg (fun h => by have := congrArg Prod.snd h; simp at this)]
         clear hd; have HQ := Hd hq; clear hq; have g1 : ¬ (a : Int) < 128 := by omega
         have g2 : (192 : Int) ≤ (a : Int) := by omega
         have g3 : (a : Int) < 224 := by omega
         have g4 : ¬ (224 : Int) ≤ (a : Int) := by omega
         have g5 : ¬ (240 : Int) ≤ (a : Int) := by omega
         have gl : (2 : Int) ≤ (l.length : Int) := by omega
         have gn : (128 : Int) ≤ (((a : Int) - 192) * 64 + (b : Int) - 128) := by omega
         have hi0 := HI0.out (by omega); have hi1 := HI1.out (by omega); have HE := Hd (show (n : Int) = (((a : Int) - 192) * 64 + (b : Int) - 128) from by omega); clear hnp hnb1 hnq hnr hnn h0; have kb : (128 : Int) ≤ (b : Int) ∧ (b : Int) < 192 := by omega
         have kb1 := kb.1; have kb2 := kb.2; clear kb; have ka : (a : Int) < 256 := by omega
         try clear hA
         try clear hA2
         try clear hA3
         try clear hA4
         try clear hA5
         try clear hA'
         try clear hL
         try clear hB
         try clear hC
         try clear hD
         try clear hN
         try clear hM
         try clear hO
         clear hba hbb hbc hbd; go_enter Tryz.func228, Tryz.ntmps228
         go_wp2_with fail; refine cret (more_nat _ _ HBb.out) ?_; rw [show decide (b / 64 = 2) = true from decide_eq_true HB.out]; go_wp2_with fail; go_ret2
         rw [HQ.out]; dsimp only; rw [HE.out]; first | exact ⟨rfl, Keeps.refl _ _⟩ | exact ⟨rfl, Ext.drew0 _⟩
       · skip
         have hd : decodeN l.length a b c d = (65533, 1) := by
          unfold decodeN; rw [if_neg (by omega), if_pos ⟨by omega, by omega, hB⟩, if_neg (by omega)]
         have hq : sgn l = (0, 0) := by
          rw [HS.out, hd, if_pos rfl]
         clear hd; have HQ := Hd hq; clear hq; have g1 : ¬ (a : Int) < 128 := by omega
         have g2 : (192 : Int) ≤ (a : Int) := by omega
         have g3 : (a : Int) < 224 := by omega
         have g4 : ¬ (224 : Int) ≤ (a : Int) := by omega
         have g5 : ¬ (240 : Int) ≤ (a : Int) := by omega
         have gl : (2 : Int) ≤ (l.length : Int) := by omega
         have gn : ¬ (128 : Int) ≤ (((a : Int) - 192) * 64 + (b : Int) - 128) := by omega
         have hi0 := HI0.out (by omega); have hi1 := HI1.out (by omega); clear hnp hnb1 hnq hnr hnn h0; have kb : (128 : Int) ≤ (b : Int) ∧ (b : Int) < 192 := by omega
         have kb1 := kb.1; have kb2 := kb.2; clear kb; have ka : (a : Int) < 256 := by omega
         try clear hA
         try clear hA2
         try clear hA3
         try clear hA4
         try clear hA5
         try clear hA'
         try clear hL
         try clear hB
         try clear hC
         try clear hD
         try clear hN
         try clear hM
         try clear hO
         clear hba hbb hbc hbd; go_enter Tryz.func228, Tryz.ntmps228
         go_wp2_with fail; refine cret (more_nat _ _ HBb.out) ?_; rw [show decide (b / 64 = 2) = true from decide_eq_true HB.out]; go_wp2_with fail; go_ret2
         rw [HQ.out]; first | exact ⟨rfl, Keeps.refl _ _⟩ | exact ⟨rfl, Ext.drew0 _⟩
     · have HB := Hd hB
       have hd : decodeN l.length a b c d = (65533, 1) := by
        unfold decodeN; rw [if_neg (by omega), if_neg (by omega), if_neg (by omega), if_neg (by omega)]
       have hq : sgn l = (0, 0) := by
        rw [HS.out, hd, if_pos rfl]
       clear hd; have HQ := Hd hq; clear hq; have g1 : ¬ (a : Int) < 128 := by omega
       have g2 : (192 : Int) ≤ (a : Int) := by omega
       have g3 : (a : Int) < 224 := by omega
       have g4 : ¬ (224 : Int) ≤ (a : Int) := by omega
       have g5 : ¬ (240 : Int) ≤ (a : Int) := by omega
       have gl : (2 : Int) ≤ (l.length : Int) := by omega
       have hi0 := HI0.out (by omega); have hi1 := HI1.out (by omega); clear h0; have ka : (a : Int) < 256 := by omega
       try clear hA
       try clear hA2
       try clear hA3
       try clear hA4
       try clear hA5
       try clear hA'
       try clear hL
       try clear hB
       try clear hC
       try clear hD
       try clear hN
       try clear hM
       try clear hO
       clear hba hbb hbc hbd; go_enter Tryz.func228, Tryz.ntmps228
       go_wp2_with fail; refine cret (more_nat _ _ HBb.out) ?_; rw [show decide (b / 64 = 2) = false from decide_eq_false HB.out]; go_wp2_with fail; go_ret2
       rw [HQ.out]; first | exact ⟨rfl, Keeps.refl _ _⟩ | exact ⟨rfl, Ext.drew0 _⟩
   · skip
     have hd : decodeN l.length a b c d = (65533, 1) := by
      unfold decodeN; rw [if_neg (by omega), if_neg (by omega), if_neg (by omega), if_neg (by omega)]
     have hq : sgn l = (0, 0) := by
      rw [HS.out, hd, if_pos rfl]
     clear hd; have HQ := Hd hq; clear hq; have g1 : ¬ (a : Int) < 128 := by omega
     have g2 : (192 : Int) ≤ (a : Int) := by omega
     have g3 : (a : Int) < 224 := by omega
     have g4 : ¬ (224 : Int) ≤ (a : Int) := by omega
     have g5 : ¬ (240 : Int) ≤ (a : Int) := by omega
     have gl : ¬ (2 : Int) ≤ (l.length : Int) := by omega
     have hi0 := HI0.out (by omega); clear h0; have ka : (a : Int) < 256 := by omega
     try clear hA
     try clear hA2
     try clear hA3
     try clear hA4
     try clear hA5
     try clear hA'
     try clear hL
     try clear hB
     try clear hC
     try clear hD
     try clear hN
     try clear hM
     try clear hO
     clear hba hbb hbc hbd; go_enter Tryz.func228, Tryz.ntmps228
     go_wp2_with fail; go_ret2
     rw [HQ.out]; first | exact ⟨rfl, Keeps.refl _ _⟩ | exact ⟨rfl, Ext.drew0 _⟩
 by_cases hA4 : a < 240
 · by_cases hL : 3 ≤ l.length
   · by_cases hB : b / 64 = 2
     · have HB := Hd hB
       by_cases hC : c / 64 = 2
       · have HC := Hd hC
         obtain ⟨p, hnp⟩ : ∃ p : Nat, a = p + 224 := ⟨a - 224, by omega⟩; obtain ⟨b1, hnb1⟩ : ∃ b1 : Nat, b = b1 + 128 := ⟨b - 128, by omega⟩; obtain ⟨c1, hnc1⟩ : ∃ c1 : Nat, c = c1 + 128 := ⟨c - 128, by omega⟩; obtain ⟨q, hnq⟩ : ∃ q : Nat, q = p * 64 := ⟨_, rfl⟩; obtain ⟨r, hnr⟩ : ∃ r : Nat, r = q + b := ⟨_, rfl⟩; obtain ⟨s, hns⟩ : ∃ s : Nat, s = q + b1 := ⟨_, rfl⟩; obtain ⟨t, hnt⟩ : ∃ t : Nat, t = s * 64 := ⟨_, rfl⟩; obtain ⟨u, hnu⟩ : ∃ u : Nat, u = t + c := ⟨_, rfl⟩; obtain ⟨n, hnn⟩ : ∃ n : Nat, n = t + c1 := ⟨_, rfl⟩; by_cases hN : 2048 ≤ n
         · by_cases hM : n < 55296
           · skip
             have hd : decodeN l.length a b c d = (n, 3) := by
              unfold decodeN; rw [if_neg (by omega), if_neg (by omega), if_pos ⟨by omega, ⟨by omega, hB⟩, by omega, hC⟩, if_pos (by omega)]; exact Prod.ext (by show _ = n; omega) rfl
             have hq : sgn l = (n, 3) := by
              rw [HS.out, hd, if_neg (fun h => by have := congrArg Prod.snd h; simp at this)]
             clear hd; have HQ := Hd hq; clear hq; have g1 : ¬ (a : Int) < 128 := by omega
             have g2 : (192 : Int) ≤ (a : Int) := by omega
             have g3 : ¬ (a : Int) < 224 := by omega
             have g4 : (224 : Int) ≤ (a : Int) := by omega
             have g5 : (a : Int) < 240 := by omega
             have g6 : ¬ (240 : Int) ≤ (a : Int) := by omega
             have gl : (3 : Int) ≤ (l.length : Int) := by omega
             have gn : (2048 : Int) ≤ ((((a : Int) - 224) * 64 + (b : Int) - 128) * 64 + (c : Int) - 128) := by omega
             have gm : ((((a : Int) - 224) * 64 + (b : Int) - 128) * 64 + (c : Int) - 128) < 55296 := by omega
             have hi0 := HI0.out (by omega); have hi1 := HI1.out (by omega); have hi2 := HI2.out (by omega); have HE := Hd (show (n : Int) = ((((a : Int) - 224) * 64 + (b : Int) - 128) * 64 + (c : Int) - 128) from by omega); clear hnp hnb1 hnc1 hnq hnr hns hnt hnu hnn h0; have kb : (128 : Int) ≤ (b : Int) ∧ (b : Int) < 192 := by omega
             have kb1 := kb.1; have kb2 := kb.2; clear kb; have kc : (128 : Int) ≤ (c : Int) ∧ (c : Int) < 192 := by omega
             have kc1 := kc.1; have kc2 := kc.2; clear kc; have ka : (a : Int) < 256 := by omega
             try clear hA
             try clear hA2
             try clear hA3
             try clear hA4
             try clear hA5
             try clear hA'
             try clear hL
             try clear hB
             try clear hC
             try clear hD
             try clear hN
             try clear hM
             try clear hO
             clear hba hbb hbc hbd; go_enter Tryz.func228, Tryz.ntmps228
             go_wp2_with fail; refine cret (more_nat _ _ HBb.out) ?_; rw [show decide (b / 64 = 2) = true from decide_eq_true HB.out]; go_wp2_with fail; refine cret (more_nat _ _ HBc.out) ?_; rw [show decide (c / 64 = 2) = true from decide_eq_true HC.out]; go_wp2_with fail; have hE0 : Keeps NoB w w.drew := (Keeps.refl _ _).drew; refine rgE qUA0 [] [] [] ?_; simp only [qUA0, planL, nL]; iterate 15 (first | (refine pM _ rfl rfl ?_; simp only [nP, nE]) | (refine pA _ rfl rfl ?_; simp only [nP, nE]) | (refine pR (by rfl) (fun W => by go_simp <;> with_reducible rfl) ?_; simp only [nP]) | (refine pX (by rfl) (by go_simp <;> with_reducible rfl) ?_; simp only [nP]))
             refine plan_nil ?_; simp only [tailL, List.filterMap_nil]; go_wp2_with fail; go_ret2
             rw [HQ.out]; dsimp only; rw [HE.out]; first | exact ⟨rfl, Keeps.refl _ _⟩ | exact ⟨rfl, Ext.drew0 _⟩
           · by_cases hO : 57343 < n
             · skip
               have hd : decodeN l.length a b c d = (n, 3) := by
                unfold decodeN; rw [if_neg (by omega), if_neg (by omega), if_pos ⟨by omega, ⟨by omega, hB⟩, by omega, hC⟩, if_pos (by omega)]; exact Prod.ext (by show _ = n; omega) rfl
               have hq : sgn l = (n, 3) := by
                rw [HS.out, hd, if_neg (fun h => by have := congrArg Prod.snd h; simp at this)]
               clear hd; have HQ := Hd hq; clear hq; have g1 : ¬ (a : Int) < 128 := by omega
               have g2 : (192 : Int) ≤ (a : Int) := by omega
               have g3 : ¬ (a : Int) < 224 := by omega
               have g4 : (224 : Int) ≤ (a : Int) := by omega
               have g5 : (a : Int) < 240 := by omega
               have g6 : ¬ (240 : Int) ≤ (a : Int) := by omega
               have gl : (3 : Int) ≤ (l.length : Int) := by omega
               have gn : (2048 : Int) ≤ ((((a : Int) - 224) * 64 + (b : Int) - 128) * 64 + (c : Int) - 128) := by omega
               have gm : ¬ ((((a : Int) - 224) * 64 + (b : Int) - 128) * 64 + (c : Int) - 128) < 55296 := by omega
               have go : (57343 : Int) < ((((a : Int) - 224) * 64 + (b : Int) - 128) * 64 + (c : Int) - 128) := by omega
               have hi0 := HI0.out (by omega); have hi1 := HI1.out (by omega); have hi2 := HI2.out (by omega); have HE := Hd (show (n : Int) = ((((a : Int) - 224) * 64 + (b : Int) - 128) * 64 + (c : Int) - 128) from by omega); clear hnp hnb1 hnc1 hnq hnr hns hnt hnu hnn h0; have kb : (128 : Int) ≤ (b : Int) ∧ (b : Int) < 192 := by omega
               have kb1 := kb.1; have kb2 := kb.2; clear kb; have kc : (128 : Int) ≤ (c : Int) ∧ (c : Int) < 192 := by omega
               have kc1 := kc.1; have kc2 := kc.2; clear kc; have ka : (a : Int) < 256 := by omega
               try clear hA
               try clear hA2
               try clear hA3
               try clear hA4
               try clear hA5
               try clear hA'
               try clear hL
               try clear hB
               try clear hC
               try clear hD
               try clear hN
               try clear hM
               try clear hO
               clear hba hbb hbc hbd; go_enter Tryz.func228, Tryz.ntmps228
               go_wp2_with fail; refine cret (more_nat _ _ HBb.out) ?_; rw [show decide (b / 64 = 2) = true from decide_eq_true HB.out]; go_wp2_with fail; refine cret (more_nat _ _ HBc.out) ?_; rw [show decide (c / 64 = 2) = true from decide_eq_true HC.out]; go_wp2_with fail; have hE0 : Keeps NoB w w.drew := (Keeps.refl _ _).drew; refine rgE qUA0 [] [] [] ?_; simp only [qUA0, planL, nL]; iterate 15 (first | (refine pM _ rfl rfl ?_; simp only [nP, nE]) | (refine pA _ rfl rfl ?_; simp only [nP, nE]) | (refine pR (by rfl) (fun W => by go_simp <;> with_reducible rfl) ?_; simp only [nP]) | (refine pX (by rfl) (by go_simp <;> with_reducible rfl) ?_; simp only [nP]))
               refine plan_nil ?_; simp only [tailL, List.filterMap_nil]; go_wp2_with fail; go_ret2
               rw [HQ.out]; dsimp only; rw [HE.out]; first | exact ⟨rfl, Keeps.refl _ _⟩ | exact ⟨rfl, Ext.drew0 _⟩
             · skip
               have hd : decodeN l.length a b c d = (65533, 1) := by
                unfold decodeN; rw [if_neg (by omega), if_neg (by omega), if_pos ⟨by omega, ⟨by omega, hB⟩, by omega, hC⟩, if_neg (by omega)]
               have hq : sgn l = (0, 0) := by
                rw [HS.out, hd, if_pos rfl]
               clear hd; have HQ := Hd hq; clear hq; have g1 : ¬ (a : Int) < 128 := by omega
               have g2 : (192 : Int) ≤ (a : Int) := by omega
               have g3 : ¬ (a : Int) < 224 := by omega
               have g4 : (224 : Int) ≤ (a : Int) := by omega
               have g5 : (a : Int) < 240 := by omega
               have g6 : ¬ (240 : Int) ≤ (a : Int) := by omega
               have gl : (3 : Int) ≤ (l.length : Int) := by omega
               have gn : (2048 : Int) ≤ ((((a : Int) - 224) * 64 + (b : Int) - 128) * 64 + (c : Int) - 128) := by omega
               have gm : ¬ ((((a : Int) - 224) * 64 + (b : Int) - 128) * 64 + (c : Int) - 128) < 55296 := by omega
               have go : ¬ (57343 : Int) < ((((a : Int) - 224) * 64 + (b : Int) - 128) * 64 + (c : Int) - 128) := by omega
               have hi0 := HI0.out (by omega); have hi1 := HI1.out (by omega); have hi2 := HI2.out (by omega); clear hnp hnb1 hnc1 hnq hnr hns hnt hnu hnn h0; have kb : (128 : Int) ≤ (b : Int) ∧ (b : Int) < 192 := by omega
               have kb1 := kb.1; have kb2 := kb.2; clear kb; have kc : (128 : Int) ≤ (c : Int) ∧ (c : Int) < 192 := by omega
               have kc1 := kc.1; have kc2 := kc.2; clear kc; have ka : (a : Int) < 256 := by omega
               try clear hA
               try clear hA2
               try clear hA3
               try clear hA4
               try clear hA5
               try clear hA'
               try clear hL
               try clear hB
               try clear hC
               try clear hD
               try clear hN
               try clear hM
               try clear hO
               clear hba hbb hbc hbd; go_enter Tryz.func228, Tryz.ntmps228
               go_wp2_with fail; refine cret (more_nat _ _ HBb.out) ?_; rw [show decide (b / 64 = 2) = true from decide_eq_true HB.out]; go_wp2_with fail; refine cret (more_nat _ _ HBc.out) ?_; rw [show decide (c / 64 = 2) = true from decide_eq_true HC.out]; go_wp2_with fail; have hE0 : Keeps NoB w w.drew := (Keeps.refl _ _).drew; refine rgE qUA0 [] [] [] ?_; simp only [qUA0, planL, nL]; iterate 15 (first | (refine pM _ rfl rfl ?_; simp only [nP, nE]) | (refine pA _ rfl rfl ?_; simp only [nP, nE]) | (refine pR (by rfl) (fun W => by go_simp <;> with_reducible rfl) ?_; simp only [nP]) | (refine pX (by rfl) (by go_simp <;> with_reducible rfl) ?_; simp only [nP]))
               refine plan_nil ?_; simp only [tailL, List.filterMap_nil]; go_wp2_with fail; go_ret2
               rw [HQ.out]; first | exact ⟨rfl, Keeps.refl _ _⟩ | exact ⟨rfl, Ext.drew0 _⟩
         · skip
           have hd : decodeN l.length a b c d = (65533, 1) := by
            unfold decodeN; rw [if_neg (by omega), if_neg (by omega), if_pos ⟨by omega, ⟨by omega, hB⟩, by omega, hC⟩, if_neg (by omega)]
           have hq : sgn l = (0, 0) := by
            rw [HS.out, hd, if_pos rfl]
           clear hd; have HQ := Hd hq; clear hq; have g1 : ¬ (a : Int) < 128 := by omega
           have g2 : (192 : Int) ≤ (a : Int) := by omega
           have g3 : ¬ (a : Int) < 224 := by omega
           have g4 : (224 : Int) ≤ (a : Int) := by omega
           have g5 : (a : Int) < 240 := by omega
           have g6 : ¬ (240 : Int) ≤ (a : Int) := by omega
           have gl : (3 : Int) ≤ (l.length : Int) := by omega
           have gn : ¬ (2048 : Int) ≤ ((((a : Int) - 224) * 64 + (b : Int) - 128) * 64 + (c : Int) - 128) := by omega
           have hi0 := HI0.out (by omega); have hi1 := HI1.out (by omega); have hi2 := HI2.out (by omega); clear hnp hnb1 hnc1 hnq hnr hns hnt hnu hnn h0; have kb : (128 : Int) ≤ (b : Int) ∧ (b : Int) < 192 := by omega
           have kb1 := kb.1; have kb2 := kb.2; clear kb; have kc : (128 : Int) ≤ (c : Int) ∧ (c : Int) < 192 := by omega
           have kc1 := kc.1; have kc2 := kc.2; clear kc; have ka : (a : Int) < 256 := by omega
           try clear hA
           try clear hA2
           try clear hA3
           try clear hA4
           try clear hA5
           try clear hA'
           try clear hL
           try clear hB
           try clear hC
           try clear hD
           try clear hN
           try clear hM
           try clear hO
           clear hba hbb hbc hbd; go_enter Tryz.func228, Tryz.ntmps228
           go_wp2_with fail; refine cret (more_nat _ _ HBb.out) ?_; rw [show decide (b / 64 = 2) = true from decide_eq_true HB.out]; go_wp2_with fail; refine cret (more_nat _ _ HBc.out) ?_; rw [show decide (c / 64 = 2) = true from decide_eq_true HC.out]; go_wp2_with fail; have hE0 : Keeps NoB w w.drew := (Keeps.refl _ _).drew; refine rgE qUA0 [] [] [] ?_; simp only [qUA0, planL, nL]; iterate 15 (first | (refine pM _ rfl rfl ?_; simp only [nP, nE]) | (refine pA _ rfl rfl ?_; simp only [nP, nE]) | (refine pR (by rfl) (fun W => by go_simp <;> with_reducible rfl) ?_; simp only [nP]) | (refine pX (by rfl) (by go_simp <;> with_reducible rfl) ?_; simp only [nP]))
           refine plan_nil ?_; simp only [tailL, List.filterMap_nil]; go_wp2_with fail; go_ret2
           rw [HQ.out]; first | exact ⟨rfl, Keeps.refl _ _⟩ | exact ⟨rfl, Ext.drew0 _⟩
       · have HC := Hd hC
         have hd : decodeN l.length a b c d = (65533, 1) := by
          unfold decodeN; rw [if_neg (by omega), if_neg (by omega), if_neg (by omega), if_neg (by omega)]
         have hq : sgn l = (0, 0) := by
          rw [HS.out, hd, if_pos rfl]
         clear hd; have HQ := Hd hq; clear hq; have g1 : ¬ (a : Int) < 128 := by omega
         have g2 : (192 : Int) ≤ (a : Int) := by omega
         have g3 : ¬ (a : Int) < 224 := by omega
         have g4 : (224 : Int) ≤ (a : Int) := by omega
         have g5 : (a : Int) < 240 := by omega
         have g6 : ¬ (240 : Int) ≤ (a : Int) := by omega
         have gl : (3 : Int) ≤ (l.length : Int) := by omega
         have hi0 := HI0.out (by omega); have hi1 := HI1.out (by omega); have hi2 := HI2.out (by omega); clear h0; have kb : (128 : Int) ≤ (b : Int) ∧ (b : Int) < 192 := by omega
         have kb1 := kb.1; have kb2 := kb.2; clear kb; have ka : (a : Int) < 256 := by omega
         try clear hA
         try clear hA2
         try clear hA3
         try clear hA4
         try clear hA5
         try clear hA'
         try clear hL
         try clear hB
         try clear hC
         try clear hD
         try clear hN
         try clear hM
         try clear hO
         clear hba hbb hbc hbd; go_enter Tryz.func228, Tryz.ntmps228
         go_wp2_with fail; refine cret (more_nat _ _ HBb.out) ?_; rw [show decide (b / 64 = 2) = true from decide_eq_true HB.out]; go_wp2_with fail; refine cret (more_nat _ _ HBc.out) ?_; rw [show decide (c / 64 = 2) = false from decide_eq_false HC.out]; go_wp2_with fail; go_ret2
         rw [HQ.out]; first | exact ⟨rfl, Keeps.refl _ _⟩ | exact ⟨rfl, Ext.drew0 _⟩
     · have HB := Hd hB
       have hd : decodeN l.length a b c d = (65533, 1) := by
        unfold decodeN; rw [if_neg (by omega), if_neg (by omega), if_neg (by omega), if_neg (by omega)]
       have hq : sgn l = (0, 0) := by
        rw [HS.out, hd, if_pos rfl]
       clear hd; have HQ := Hd hq; clear hq; have g1 : ¬ (a : Int) < 128 := by omega
       have g2 : (192 : Int) ≤ (a : Int) := by omega
       have g3 : ¬ (a : Int) < 224 := by omega
       have g4 : (224 : Int) ≤ (a : Int) := by omega
       have g5 : (a : Int) < 240 := by omega
       have g6 : ¬ (240 : Int) ≤ (a : Int) := by omega
       have gl : (3 : Int) ≤ (l.length : Int) := by omega
       have hi0 := HI0.out (by omega); have hi1 := HI1.out (by omega); clear h0; have ka : (a : Int) < 256 := by omega
       try clear hA
       try clear hA2
       try clear hA3
       try clear hA4
       try clear hA5
       try clear hA'
       try clear hL
       try clear hB
       try clear hC
       try clear hD
       try clear hN
       try clear hM
       try clear hO
       clear hba hbb hbc hbd; go_enter Tryz.func228, Tryz.ntmps228
       go_wp2_with fail; refine cret (more_nat _ _ HBb.out) ?_; rw [show decide (b / 64 = 2) = false from decide_eq_false HB.out]; go_wp2_with fail; go_ret2
       rw [HQ.out]; first | exact ⟨rfl, Keeps.refl _ _⟩ | exact ⟨rfl, Ext.drew0 _⟩
   · skip
     have hd : decodeN l.length a b c d = (65533, 1) := by
      unfold decodeN; rw [if_neg (by omega), if_neg (by omega), if_neg (by omega), if_neg (by omega)]
     have hq : sgn l = (0, 0) := by
      rw [HS.out, hd, if_pos rfl]
     clear hd; have HQ := Hd hq; clear hq; have g1 : ¬ (a : Int) < 128 := by omega
     have g2 : (192 : Int) ≤ (a : Int) := by omega
     have g3 : ¬ (a : Int) < 224 := by omega
     have g4 : (224 : Int) ≤ (a : Int) := by omega
     have g5 : (a : Int) < 240 := by omega
     have g6 : ¬ (240 : Int) ≤ (a : Int) := by omega
     have gl : ¬ (3 : Int) ≤ (l.length : Int) := by omega
     have hi0 := HI0.out (by omega); clear h0; have ka : (a : Int) < 256 := by omega
     try clear hA
     try clear hA2
     try clear hA3
     try clear hA4
     try clear hA5
     try clear hA'
     try clear hL
     try clear hB
     try clear hC
     try clear hD
     try clear hN
     try clear hM
     try clear hO
     clear hba hbb hbc hbd; go_enter Tryz.func228, Tryz.ntmps228
     go_wp2_with fail; go_ret2
     rw [HQ.out]; first | exact ⟨rfl, Keeps.refl _ _⟩ | exact ⟨rfl, Ext.drew0 _⟩
 by_cases hA5 : a < 248
 · by_cases hL : 4 ≤ l.length
   · by_cases hB : b / 64 = 2
     · have HB := Hd hB
       by_cases hC : c / 64 = 2
       · have HC := Hd hC
         by_cases hD : d / 64 = 2
         · have HD := Hd hD
           obtain ⟨p, hnp⟩ : ∃ p : Nat, a = p + 240 := ⟨a - 240, by omega⟩; obtain ⟨b1, hnb1⟩ : ∃ b1 : Nat, b = b1 + 128 := ⟨b - 128, by omega⟩; obtain ⟨c1, hnc1⟩ : ∃ c1 : Nat, c = c1 + 128 := ⟨c - 128, by omega⟩; obtain ⟨d1, hnd1⟩ : ∃ d1 : Nat, d = d1 + 128 := ⟨d - 128, by omega⟩; obtain ⟨q, hnq⟩ : ∃ q : Nat, q = p * 64 := ⟨_, rfl⟩; obtain ⟨r, hnr⟩ : ∃ r : Nat, r = q + b := ⟨_, rfl⟩; obtain ⟨s, hns⟩ : ∃ s : Nat, s = q + b1 := ⟨_, rfl⟩; obtain ⟨t, hnt⟩ : ∃ t : Nat, t = s * 64 := ⟨_, rfl⟩; obtain ⟨u, hnu⟩ : ∃ u : Nat, u = t + c := ⟨_, rfl⟩; obtain ⟨x, hnx⟩ : ∃ x : Nat, x = t + c1 := ⟨_, rfl⟩; obtain ⟨y, hny⟩ : ∃ y : Nat, y = x * 64 := ⟨_, rfl⟩; obtain ⟨z, hnz⟩ : ∃ z : Nat, z = y + d := ⟨_, rfl⟩; obtain ⟨n, hnn⟩ : ∃ n : Nat, n = y + d1 := ⟨_, rfl⟩; by_cases hN : 65536 ≤ n
           · by_cases hM : n ≤ 1114111
             · skip
               have hd : decodeN l.length a b c d = (n, 4) := by
                unfold decodeN; rw [if_neg (by omega), if_neg (by omega), if_neg (by omega), if_pos ⟨by omega, ⟨by omega, hB⟩, ⟨by omega, hC⟩, by omega, hD⟩, if_pos (by omega)]; exact Prod.ext (by show _ = n; omega) rfl
               have hq : sgn l = (n, 4) := by
                rw [HS.out, hd, if_neg (fun h => by have := congrArg Prod.snd h; simp at this)]
               clear hd; have HQ := Hd hq; clear hq; have g1 : ¬ (a : Int) < 128 := by omega
               have g2 : (192 : Int) ≤ (a : Int) := by omega
               have g3 : ¬ (a : Int) < 224 := by omega
               have g4 : (224 : Int) ≤ (a : Int) := by omega
               have g5 : ¬ (a : Int) < 240 := by omega
               have g6 : (240 : Int) ≤ (a : Int) := by omega
               have g7 : (a : Int) < 248 := by omega
               have gl : (4 : Int) ≤ (l.length : Int) := by omega
               have gn : (65536 : Int) ≤ (((((a : Int) - 240) * 64 + (b : Int) - 128) * 64 + (c : Int) - 128) * 64 + (d : Int) - 128) := by omega
               have gm : (((((a : Int) - 240) * 64 + (b : Int) - 128) * 64 + (c : Int) - 128) * 64 + (d : Int) - 128) ≤ 1114111 := by omega
               have hi0 := HI0.out (by omega); have hi1 := HI1.out (by omega); have hi2 := HI2.out (by omega); have hi3 := HI3.out (by omega); have HE := Hd (show (n : Int) = (((((a : Int) - 240) * 64 + (b : Int) - 128) * 64 + (c : Int) - 128) * 64 + (d : Int) - 128) from by omega); clear hnp hnb1 hnc1 hnd1 hnq hnr hns hnt hnu hnx hny hnz hnn h0; have kb : (128 : Int) ≤ (b : Int) ∧ (b : Int) < 192 := by omega
               have kb1 := kb.1; have kb2 := kb.2; clear kb; have kc : (128 : Int) ≤ (c : Int) ∧ (c : Int) < 192 := by omega
               have kc1 := kc.1; have kc2 := kc.2; clear kc; have kd : (128 : Int) ≤ (d : Int) ∧ (d : Int) < 192 := by omega
               have kd1 := kd.1; have kd2 := kd.2; clear kd; have ka : (a : Int) < 256 := by omega
               try clear hA
               try clear hA2
               try clear hA3
               try clear hA4
               try clear hA5
               try clear hA'
               try clear hL
               try clear hB
               try clear hC
               try clear hD
               try clear hN
               try clear hM
               try clear hO
               clear hba hbb hbc hbd; go_enter Tryz.func228, Tryz.ntmps228
               go_wp2_with fail; refine cret (more_nat _ _ HBb.out) ?_; rw [show decide (b / 64 = 2) = true from decide_eq_true HB.out]; go_wp2_with fail; refine cret (more_nat _ _ HBc.out) ?_; rw [show decide (c / 64 = 2) = true from decide_eq_true HC.out]; go_wp2_with fail; refine cret (more_nat _ _ HBd.out) ?_; rw [show decide (d / 64 = 2) = true from decide_eq_true HD.out]; go_wp2_with fail; have hE0 : Keeps NoB w w.drew := (Keeps.refl _ _).drew; refine rgE qUA1 [] [] [] ?_; simp only [qUA1, planL, nL]; iterate 21 (first | (refine pM _ rfl rfl ?_; simp only [nP, nE]) | (refine pA _ rfl rfl ?_; simp only [nP, nE]) | (refine pR (by rfl) (fun W => by go_simp <;> with_reducible rfl) ?_; simp only [nP]) | (refine pX (by rfl) (by go_simp <;> with_reducible rfl) ?_; simp only [nP]))
               refine plan_nil ?_; simp only [tailL, List.filterMap_nil]; go_wp2_with fail; go_ret2
               rw [HQ.out]; dsimp only; rw [HE.out]; first | exact ⟨rfl, Keeps.refl _ _⟩ | exact ⟨rfl, Ext.drew0 _⟩
             · skip
               have hd : decodeN l.length a b c d = (65533, 1) := by
                unfold decodeN; rw [if_neg (by omega), if_neg (by omega), if_neg (by omega), if_pos ⟨by omega, ⟨by omega, hB⟩, ⟨by omega, hC⟩, by omega, hD⟩, if_neg (by omega)]
               have hq : sgn l = (0, 0) := by
                rw [HS.out, hd, if_pos rfl]
               clear hd; have HQ := Hd hq; clear hq; have g1 : ¬ (a : Int) < 128 := by omega
               have g2 : (192 : Int) ≤ (a : Int) := by omega
               have g3 : ¬ (a : Int) < 224 := by omega
               have g4 : (224 : Int) ≤ (a : Int) := by omega
               have g5 : ¬ (a : Int) < 240 := by omega
               have g6 : (240 : Int) ≤ (a : Int) := by omega
               have g7 : (a : Int) < 248 := by omega
               have gl : (4 : Int) ≤ (l.length : Int) := by omega
               have gn : (65536 : Int) ≤ (((((a : Int) - 240) * 64 + (b : Int) - 128) * 64 + (c : Int) - 128) * 64 + (d : Int) - 128) := by omega
               have gm : ¬ (((((a : Int) - 240) * 64 + (b : Int) - 128) * 64 + (c : Int) - 128) * 64 + (d : Int) - 128) ≤ 1114111 := by omega
               have hi0 := HI0.out (by omega); have hi1 := HI1.out (by omega); have hi2 := HI2.out (by omega); have hi3 := HI3.out (by omega); clear hnp hnb1 hnc1 hnd1 hnq hnr hns hnt hnu hnx hny hnz hnn h0; have kb : (128 : Int) ≤ (b : Int) ∧ (b : Int) < 192 := by omega
               have kb1 := kb.1; have kb2 := kb.2; clear kb; have kc : (128 : Int) ≤ (c : Int) ∧ (c : Int) < 192 := by omega
               have kc1 := kc.1; have kc2 := kc.2; clear kc; have kd : (128 : Int) ≤ (d : Int) ∧ (d : Int) < 192 := by omega
               have kd1 := kd.1; have kd2 := kd.2; clear kd; have ka : (a : Int) < 256 := by omega
               try clear hA
               try clear hA2
               try clear hA3
               try clear hA4
               try clear hA5
               try clear hA'
               try clear hL
               try clear hB
               try clear hC
               try clear hD
               try clear hN
               try clear hM
               try clear hO
               clear hba hbb hbc hbd; go_enter Tryz.func228, Tryz.ntmps228
               go_wp2_with fail; refine cret (more_nat _ _ HBb.out) ?_; rw [show decide (b / 64 = 2) = true from decide_eq_true HB.out]; go_wp2_with fail; refine cret (more_nat _ _ HBc.out) ?_; rw [show decide (c / 64 = 2) = true from decide_eq_true HC.out]; go_wp2_with fail; refine cret (more_nat _ _ HBd.out) ?_; rw [show decide (d / 64 = 2) = true from decide_eq_true HD.out]; go_wp2_with fail; have hE0 : Keeps NoB w w.drew := (Keeps.refl _ _).drew; refine rgE qUA1 [] [] [] ?_; simp only [qUA1, planL, nL]; iterate 21 (first | (refine pM _ rfl rfl ?_; simp only [nP, nE]) | (refine pA _ rfl rfl ?_; simp only [nP, nE]) | (refine pR (by rfl) (fun W => by go_simp <;> with_reducible rfl) ?_; simp only [nP]) | (refine pX (by rfl) (by go_simp <;> with_reducible rfl) ?_; simp only [nP]))
               refine plan_nil ?_; simp only [tailL, List.filterMap_nil]; go_wp2_with fail; go_ret2
               rw [HQ.out]; first | exact ⟨rfl, Keeps.refl _ _⟩ | exact ⟨rfl, Ext.drew0 _⟩
           · skip
             have hd : decodeN l.length a b c d = (65533, 1) := by
              unfold decodeN; rw [if_neg (by omega), if_neg (by omega), if_neg (by omega), if_pos ⟨by omega, ⟨by omega, hB⟩, ⟨by omega, hC⟩, by omega, hD⟩, if_neg (by omega)]
             have hq : sgn l = (0, 0) := by
              rw [HS.out, hd, if_pos rfl]
             clear hd; have HQ := Hd hq; clear hq; have g1 : ¬ (a : Int) < 128 := by omega
             have g2 : (192 : Int) ≤ (a : Int) := by omega
             have g3 : ¬ (a : Int) < 224 := by omega
             have g4 : (224 : Int) ≤ (a : Int) := by omega
             have g5 : ¬ (a : Int) < 240 := by omega
             have g6 : (240 : Int) ≤ (a : Int) := by omega
             have g7 : (a : Int) < 248 := by omega
             have gl : (4 : Int) ≤ (l.length : Int) := by omega
             have gn : ¬ (65536 : Int) ≤ (((((a : Int) - 240) * 64 + (b : Int) - 128) * 64 + (c : Int) - 128) * 64 + (d : Int) - 128) := by omega
             have hi0 := HI0.out (by omega); have hi1 := HI1.out (by omega); have hi2 := HI2.out (by omega); have hi3 := HI3.out (by omega); clear hnp hnb1 hnc1 hnd1 hnq hnr hns hnt hnu hnx hny hnz hnn h0; have kb : (128 : Int) ≤ (b : Int) ∧ (b : Int) < 192 := by omega
             have kb1 := kb.1; have kb2 := kb.2; clear kb; have kc : (128 : Int) ≤ (c : Int) ∧ (c : Int) < 192 := by omega
             have kc1 := kc.1; have kc2 := kc.2; clear kc; have kd : (128 : Int) ≤ (d : Int) ∧ (d : Int) < 192 := by omega
             have kd1 := kd.1; have kd2 := kd.2; clear kd; have ka : (a : Int) < 256 := by omega
             try clear hA
             try clear hA2
             try clear hA3
             try clear hA4
             try clear hA5
             try clear hA'
             try clear hL
             try clear hB
             try clear hC
             try clear hD
             try clear hN
             try clear hM
             try clear hO
             clear hba hbb hbc hbd; go_enter Tryz.func228, Tryz.ntmps228
             go_wp2_with fail; refine cret (more_nat _ _ HBb.out) ?_; rw [show decide (b / 64 = 2) = true from decide_eq_true HB.out]; go_wp2_with fail; refine cret (more_nat _ _ HBc.out) ?_; rw [show decide (c / 64 = 2) = true from decide_eq_true HC.out]; go_wp2_with fail; refine cret (more_nat _ _ HBd.out) ?_; rw [show decide (d / 64 = 2) = true from decide_eq_true HD.out]; go_wp2_with fail; have hE0 : Keeps NoB w w.drew := (Keeps.refl _ _).drew; refine rgE qUA1 [] [] [] ?_; simp only [qUA1, planL, nL]; iterate 21 (first | (refine pM _ rfl rfl ?_; simp only [nP, nE]) | (refine pA _ rfl rfl ?_; simp only [nP, nE]) | (refine pR (by rfl) (fun W => by go_simp <;> with_reducible rfl) ?_; simp only [nP]) | (refine pX (by rfl) (by go_simp <;> with_reducible rfl) ?_; simp only [nP]))
             refine plan_nil ?_; simp only [tailL, List.filterMap_nil]; go_wp2_with fail; go_ret2
             rw [HQ.out]; first | exact ⟨rfl, Keeps.refl _ _⟩ | exact ⟨rfl, Ext.drew0 _⟩
         · have HD := Hd hD
           have hd : decodeN l.length a b c d = (65533, 1) := by
            unfold decodeN; rw [if_neg (by omega), if_neg (by omega), if_neg (by omega), if_neg (by omega)]
           have hq : sgn l = (0, 0) := by
            rw [HS.out, hd, if_pos rfl]
           clear hd; have HQ := Hd hq; clear hq; have g1 : ¬ (a : Int) < 128 := by omega
           have g2 : (192 : Int) ≤ (a : Int) := by omega
           have g3 : ¬ (a : Int) < 224 := by omega
           have g4 : (224 : Int) ≤ (a : Int) := by omega
           have g5 : ¬ (a : Int) < 240 := by omega
           have g6 : (240 : Int) ≤ (a : Int) := by omega
           have g7 : (a : Int) < 248 := by omega
           have gl : (4 : Int) ≤ (l.length : Int) := by omega
           have hi0 := HI0.out (by omega); have hi1 := HI1.out (by omega); have hi2 := HI2.out (by omega); have hi3 := HI3.out (by omega); clear h0; have kb : (128 : Int) ≤ (b : Int) ∧ (b : Int) < 192 := by omega
           have kb1 := kb.1; have kb2 := kb.2; clear kb; have kc : (128 : Int) ≤ (c : Int) ∧ (c : Int) < 192 := by omega
           have kc1 := kc.1; have kc2 := kc.2; clear kc; have ka : (a : Int) < 256 := by omega
           try clear hA
           try clear hA2
           try clear hA3
           try clear hA4
           try clear hA5
           try clear hA'
           try clear hL
           try clear hB
           try clear hC
           try clear hD
           try clear hN
           try clear hM
           try clear hO
           clear hba hbb hbc hbd; go_enter Tryz.func228, Tryz.ntmps228
           go_wp2_with fail; refine cret (more_nat _ _ HBb.out) ?_; rw [show decide (b / 64 = 2) = true from decide_eq_true HB.out]; go_wp2_with fail; refine cret (more_nat _ _ HBc.out) ?_; rw [show decide (c / 64 = 2) = true from decide_eq_true HC.out]; go_wp2_with fail; refine cret (more_nat _ _ HBd.out) ?_; rw [show decide (d / 64 = 2) = false from decide_eq_false HD.out]; go_wp2_with fail; go_ret2
           rw [HQ.out]; first | exact ⟨rfl, Keeps.refl _ _⟩ | exact ⟨rfl, Ext.drew0 _⟩
       · have HC := Hd hC
         have hd : decodeN l.length a b c d = (65533, 1) := by
          unfold decodeN; rw [if_neg (by omega), if_neg (by omega), if_neg (by omega), if_neg (by omega)]
         have hq : sgn l = (0, 0) := by
          rw [HS.out, hd, if_pos rfl]
         clear hd; have HQ := Hd hq; clear hq; have g1 : ¬ (a : Int) < 128 := by omega
         have g2 : (192 : Int) ≤ (a : Int) := by omega
         have g3 : ¬ (a : Int) < 224 := by omega
         have g4 : (224 : Int) ≤ (a : Int) := by omega
         have g5 : ¬ (a : Int) < 240 := by omega
         have g6 : (240 : Int) ≤ (a : Int) := by omega
         have g7 : (a : Int) < 248 := by omega
         have gl : (4 : Int) ≤ (l.length : Int) := by omega
         have hi0 := HI0.out (by omega); have hi1 := HI1.out (by omega); have hi2 := HI2.out (by omega); clear h0; have kb : (128 : Int) ≤ (b : Int) ∧ (b : Int) < 192 := by omega
         have kb1 := kb.1; have kb2 := kb.2; clear kb; have ka : (a : Int) < 256 := by omega
         try clear hA
         try clear hA2
         try clear hA3
         try clear hA4
         try clear hA5
         try clear hA'
         try clear hL
         try clear hB
         try clear hC
         try clear hD
         try clear hN
         try clear hM
         try clear hO
         clear hba hbb hbc hbd; go_enter Tryz.func228, Tryz.ntmps228
         go_wp2_with fail; refine cret (more_nat _ _ HBb.out) ?_; rw [show decide (b / 64 = 2) = true from decide_eq_true HB.out]; go_wp2_with fail; refine cret (more_nat _ _ HBc.out) ?_; rw [show decide (c / 64 = 2) = false from decide_eq_false HC.out]; go_wp2_with fail; go_ret2
         rw [HQ.out]; first | exact ⟨rfl, Keeps.refl _ _⟩ | exact ⟨rfl, Ext.drew0 _⟩
     · have HB := Hd hB
       have hd : decodeN l.length a b c d = (65533, 1) := by
        unfold decodeN; rw [if_neg (by omega), if_neg (by omega), if_neg (by omega), if_neg (by omega)]
       have hq : sgn l = (0, 0) := by
        rw [HS.out, hd, if_pos rfl]
       clear hd; have HQ := Hd hq; clear hq; have g1 : ¬ (a : Int) < 128 := by omega
       have g2 : (192 : Int) ≤ (a : Int) := by omega
       have g3 : ¬ (a : Int) < 224 := by omega
       have g4 : (224 : Int) ≤ (a : Int) := by omega
       have g5 : ¬ (a : Int) < 240 := by omega
       have g6 : (240 : Int) ≤ (a : Int) := by omega
       have g7 : (a : Int) < 248 := by omega
       have gl : (4 : Int) ≤ (l.length : Int) := by omega
       have hi0 := HI0.out (by omega); have hi1 := HI1.out (by omega); clear h0; have ka : (a : Int) < 256 := by omega
       try clear hA
       try clear hA2
       try clear hA3
       try clear hA4
       try clear hA5
       try clear hA'
       try clear hL
       try clear hB
       try clear hC
       try clear hD
       try clear hN
       try clear hM
       try clear hO
       clear hba hbb hbc hbd; go_enter Tryz.func228, Tryz.ntmps228
       go_wp2_with fail; refine cret (more_nat _ _ HBb.out) ?_; rw [show decide (b / 64 = 2) = false from decide_eq_false HB.out]; go_wp2_with fail; go_ret2
       rw [HQ.out]; first | exact ⟨rfl, Keeps.refl _ _⟩ | exact ⟨rfl, Ext.drew0 _⟩
   · skip
     have hd : decodeN l.length a b c d = (65533, 1) := by
      unfold decodeN; rw [if_neg (by omega), if_neg (by omega), if_neg (by omega), if_neg (by omega)]
     have hq : sgn l = (0, 0) := by
      rw [HS.out, hd, if_pos rfl]
     clear hd; have HQ := Hd hq; clear hq; have g1 : ¬ (a : Int) < 128 := by omega
     have g2 : (192 : Int) ≤ (a : Int) := by omega
     have g3 : ¬ (a : Int) < 224 := by omega
     have g4 : (224 : Int) ≤ (a : Int) := by omega
     have g5 : ¬ (a : Int) < 240 := by omega
     have g6 : (240 : Int) ≤ (a : Int) := by omega
     have g7 : (a : Int) < 248 := by omega
     have gl : ¬ (4 : Int) ≤ (l.length : Int) := by omega
     have hi0 := HI0.out (by omega); clear h0; have ka : (a : Int) < 256 := by omega
     try clear hA
     try clear hA2
     try clear hA3
     try clear hA4
     try clear hA5
     try clear hA'
     try clear hL
     try clear hB
     try clear hC
     try clear hD
     try clear hN
     try clear hM
     try clear hO
     clear hba hbb hbc hbd; go_enter Tryz.func228, Tryz.ntmps228
     go_wp2_with fail; go_ret2
     rw [HQ.out]; first | exact ⟨rfl, Keeps.refl _ _⟩ | exact ⟨rfl, Ext.drew0 _⟩
 have hd : decodeN l.length a b c d = (65533, 1) := by
  unfold decodeN; rw [if_neg (by omega), if_neg (by omega), if_neg (by omega), if_neg (by omega)]
 have hq : sgn l = (0, 0) := by
  rw [HS.out, hd, if_pos rfl]
 clear hd; have HQ := Hd hq; clear hq; have g1 : ¬ (a : Int) < 128 := by omega
 have g2 : (192 : Int) ≤ (a : Int) := by omega
 have g3 : ¬ (a : Int) < 224 := by omega
 have g4 : (224 : Int) ≤ (a : Int) := by omega
 have g5 : ¬ (a : Int) < 240 := by omega
 have g6 : (240 : Int) ≤ (a : Int) := by omega
 have g7 : ¬ (a : Int) < 248 := by omega
 have hi0 := HI0.out (by omega); clear h0; have ka : (a : Int) < 256 := by omega
 try clear hA
 try clear hA2
 try clear hA3
 try clear hA4
 try clear hA5
 try clear hA'
 try clear hL
 try clear hB
 try clear hC
 try clear hD
 try clear hN
 try clear hM
 try clear hO
 clear hba hbb hbc hbd; go_enter Tryz.func228, Tryz.ntmps228
 go_wp2_with fail; go_ret2
 rw [HQ.out]; first | exact ⟨rfl, Keeps.refl _ _⟩ | exact ⟨rfl, Ext.drew0 _⟩
theorem sign_any (w : World) (l : List UInt8) (hl : l ≠ []) :
 Calls Tryz.prog 228 #[.string (bs l)] w fun e w' => e = .returned (.tuple #[.int .i64 ((sgn l).1 : Int), .int .i64 ((sgn l).2 : Int)]) ∧ Ext w w' :=
 sign_core w l _ _ _ _ (Hd (UInt8.toNat_lt _)) (Hd (UInt8.toNat_lt _)) (Hd (UInt8.toNat_lt _)) (Hd (UInt8.toNat_lt _)) (List.length_pos_iff.2 hl) (Hd (sgn_N l))
  (Hd fun h => index_bs l 0 h) (Hd fun h => index_bs l 1 h) (Hd fun h => index_bs l 2 h) (Hd fun h => index_bs l 3 h)
end
end Go.Proofs.YtoadjbgpfihoiaaGreatDoor
