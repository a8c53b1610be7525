/- Texts TC, UA, UB, UC, one behind the other. Conditions: as each says. -/
import Derived.Test.YtcfgnbbiljohjaaGreatDoorPkF
section
/- What text.Check tells is what the document tells: the signs of a text. No program is named here. -/
set_option linter.unusedVariables false
set_option linter.unusedSimpArgs false
set_option maxRecDepth 10000
namespace Go.Proofs.YtcfgnbbiljohjaaGreatDoor
open Go.RowKit Go.Shelf
theorem dropWhile_len (p : UInt8 → Bool) : ∀ l : List UInt8, (l.dropWhile p).length ≤ l.length
  | [] => Nat.le_refl _
  | x :: l => by
    rw [List.dropWhile_cons]
    split
    · have := dropWhile_len p l; rw [List.length_cons]; omega
    · exact Nat.le_refl _
theorem dropWhile_id (p : UInt8 → Bool) (l : List UInt8) : l.dropWhile p = l ↔ ∀ x, l.head? = some x → p x = false := by
  cases l with
  | nil => simp
  | cons y l =>
    rw [List.dropWhile_cons]
    constructor
    · intro h x hx
      obtain rfl : y = x := by simpa using hx
      cases hp : p y
      · rfl
      · rw [if_pos hp] at h
        have := dropWhile_len p l
        rw [h, List.length_cons] at this
        omega
    · intro h
      rw [if_neg (by rw [h y rfl]; exact Bool.noConfusion)]
theorem trim_id (l : List UInt8) : Lib.trimB l 32 = l ↔ l.head? ≠ some 32 ∧ l.getLast? ≠ some 32 := by
  unfold Lib.trimB Lib.trimLeftB Lib.trimRightB
  have k1 := dropWhile_len (fun x => x == 32) l.reverse
  have k2 := dropWhile_len (fun x => x == 32) (l.reverse.dropWhile (fun x => x == 32)).reverse
  constructor
  · intro h
    have hl := congrArg List.length h
    rw [List.length_reverse] at k1 k2
    have e1 : l.reverse.dropWhile (fun x => x == 32) = l.reverse := by
      have hs : (l.reverse.dropWhile (fun x => x == 32)).length = l.reverse.length := by rw [List.length_reverse]; omega
      exact (List.dropWhile_suffix _).eq_of_length hs
    rw [e1, List.reverse_reverse] at h
    constructor
    · intro hx
      have := (dropWhile_id _ _).1 h 32 hx
      simp at this
    · intro hx
      have := (dropWhile_id _ _).1 e1 32 (by rw [List.head?_reverse]; exact hx)
      simp at this
  · rintro ⟨h1, h2⟩
    have e1 : l.reverse.dropWhile (fun x => x == 32) = l.reverse := (dropWhile_id _ _).2 fun x hx => by
      rw [List.head?_reverse] at hx
      have : x ≠ 32 := fun e => h2 (by rw [hx, e])
      simpa using this
    rw [e1, List.reverse_reverse]
    exact (dropWhile_id _ _).2 fun x hx => by
      have : x ≠ 32 := fun e => h1 (by rw [hx, e])
      simpa using this
theorem blankR_eq (l : List UInt8) : blankR l = blankB l := by
  unfold blankR blankB
  have h := trim_id l
  by_cases h1 : l.head? = some 32
  · have : ¬ Lib.trimB l 32 = l := fun h2 => (h.1 h2).1 h1
    simp [h1, this]
  · by_cases h2 : l.getLast? = some 32
    · have : ¬ Lib.trimB l 32 = l := fun h3 => (h.1 h3).2 h2
      simp [h2, this]
    · have : Lib.trimB l 32 = l := h.2 ⟨h1, h2⟩
      rw [beq_eq_false_iff_ne.2 h1, beq_eq_false_iff_ne.2 h2]
      simp [this]
theorem chkR_eq (l : List UInt8) : chkR l = chk l := by
  unfold chkR chk
  have hv := valid_signs l l.length 0 (by omega)
  rw [List.drop_zero] at hv
  rw [blankR_eq, show badsF l l.length 0 = (signsL l).any (·.bad) from rfl]
  have hv' : Lib.validD l = !(signsL l).any (·.broken) := hv
  rw [hv']
  cases (signsL l).any (·.broken) <;> simp
theorem check_chk (W w : World) (hT : Tabs W) (hE : Ext W w) (l : List UInt8) (hs : l.length ≤ 9223372036854775807) :
    Calls Tryz.prog 103 #[.string (bs l)] w fun r w' => r = .returned (.int .i64 (chk l : Int)) ∧ Ext w w' := by
  rw [← chkR_eq]; exact check_text W w hT hE l hs
/-- what the condition on the tables gives -/
theorem tabs_of (W : World) (h : Tab W) : Tabs W := by
  have hL : laidMet Tryz.prog tables W := h
  exact utf8Tabs_of_readsT (U8Types.of196 Tryz.laysValid) ⟨by kernel_rfl, by kernel_rfl, by kernel_rfl, by kernel_rfl, by kernel_rfl, by kernel_rfl, by kernel_rfl⟩ (Lib.laidMet.reads hL (.tail _ (.head _))) (Lib.laidMet.reads hL (.head _))
end Go.Proofs.YtcfgnbbiljohjaaGreatDoor
end
section
/- The document's sign: with which sign bytes begin. No condition but that there are bytes. -/
set_option linter.unusedVariables false
set_option linter.unusedSimpArgs false
set_option maxHeartbeats 2000000
set_option maxRecDepth 10000
namespace Go.Proofs.YtcfgnbbiljohjaaGreatDoor
open Go.RowKit Go.Shelf Go.Lib
theorem morec_any (w : World) (c : UInt8) : Calls Tryz.prog 147 #[.int .u8 c.toNat] w fun e w' => e = .returned (.bool (decide (c.toNat / 64 = 2))) ∧ w' = w := by
  have hc := c.toNat_lt
  by_cases h : c.toNat / 64 = 2
  · have g1 : (128 : Int) ≤ (c.toNat : Int) := by omega
    have g2 : (c.toNat : Int) < 192 := by omega
    rw [decide_eq_true h]
    go_enter Tryz.func147, Tryz.ntmps147
    go_wp2_with fail
    go_ret
    exact ⟨rfl, rfl⟩
  · rw [decide_eq_false h]
    by_cases h1 : c.toNat < 128
    · have g1 : ¬ (128 : Int) ≤ (c.toNat : Int) := by omega
      go_enter Tryz.func147, Tryz.ntmps147
      go_wp2_with fail
      go_ret
      exact ⟨rfl, rfl⟩
    · have g1 : (128 : Int) ≤ (c.toNat : Int) := by omega
      have g2 : ¬ (c.toNat : Int) < 192 := by omega
      go_enter Tryz.func147, Tryz.ntmps147
      go_wp2_with fail
      go_ret
      exact ⟨rfl, rfl⟩
theorem w64 {x y : Int} (h : x = y) (h0 : 0 ≤ y) (h1 : y < 9223372036854775808) : wrap64 x = y := by subst h; unfold wrap64; omega
theorem index_bs (l : List UInt8) (i : Nat) (h : i < l.length) (W : World) : (Instr.index 9 (.string (bs l)) (.int .i64 (i : Int))).run Tryz.prog W = .ok (.int .u8 ((l.getD i 0).toNat : Int)) W := by
  rw [run_index_string W _ _ _ _ Tryz.underlying9, dif_pos ⟨by omega, by rw [bs_size]; omega⟩]
  congr 3
  rw [List.getD_eq_getElem?_getD, List.getElem?_eq_getElem h]
  rfl
theorem more_nat (w : World) (n : Nat) (h : n < 256) : Calls Tryz.prog 147 #[.int .u8 (n : Int)] w fun e w' => e = .returned (.bool (decide (n / 64 = 2))) ∧ w' = w := by
  obtain ⟨c, rfl⟩ : ∃ c : UInt8, n = c.toNat := ⟨UInt8.ofNat n, by simp; omega⟩
  exact morec_any w c
theorem sign_core (w : World) (l : List UInt8) (a b c d : Nat) (HBa : Hid (a < 256)) (HBb : Hid (b < 256)) (HBc : Hid (c < 256)) (HBd : Hid (d < 256)) (h0 : 0 < l.length)
    (HS : Hid (sgn l = if decodeN l.length a b c d = (65533, 1) then (0, 0) else decodeN l.length a b c d))
    (HI0 : Hid (0 < l.length → ∀ W, (Instr.index 9 (.string (bs l)) (.int .i64 0)).run Tryz.prog W = .ok (.int .u8 (a : Int)) W))
    (HI1 : Hid (1 < l.length → ∀ W, (Instr.index 9 (.string (bs l)) (.int .i64 1)).run Tryz.prog W = .ok (.int .u8 (b : Int)) W))
    (HI2 : Hid (2 < l.length → ∀ W, (Instr.index 9 (.string (bs l)) (.int .i64 2)).run Tryz.prog W = .ok (.int .u8 (c : Int)) W))
    (HI3 : Hid (3 < l.length → ∀ W, (Instr.index 9 (.string (bs l)) (.int .i64 3)).run Tryz.prog W = .ok (.int .u8 (d : Int)) W)) :
    Calls Tryz.prog 124 #[.string (bs l)] w fun e w' => e = .returned (.tuple #[.int .i64 ((sgn l).1 : Int), .int .i64 ((sgn l).2 : Int)]) ∧ Ext w w' := by
  have hba := HBa.out
  have hbb := HBb.out
  have hbc := HBc.out
  have hbd := HBd.out
  have hsz := bs_size l
  by_cases hA : a < 128
  · have hA' := hA
    have hd : decodeN l.length a b c d = (a, 1) := by
      unfold decodeN
      rw [if_pos hA]
    have hq : sgn l = (a, 1) := by
      rw [HS.out, hd, if_neg (fun h => by have := congrArg Prod.fst h; simp at this; omega)]
    clear hd
    have HQ := Lib.hid hq
    clear hq
    have g1 : (a : Int) < 128 := by omega
    have hi0 := HI0.out (by omega)
    clear h0
    have ka : (a : Int) < 256 := by omega
    try clear hA
    try clear hA2
    try clear hA3
    try clear hA4
    try clear hA5
    try clear hA'
    try clear hL
    try clear hB
    try clear hC
    try clear hD
    try clear hN
    try clear hM
    try clear hO
    clear hba hbb hbc hbd
    go_enter Tryz.func124, Tryz.ntmps124
    go_wp2_with fail
    go_ret2
    rw [HQ.out]
    first | exact ⟨rfl, Keeps.refl _ _⟩ | exact ⟨rfl, Ext.drew0 _⟩
  by_cases hA2 : a < 192
  · have hA' := hA2
    have hd : decodeN l.length a b c d = (65533, 1) := by
      unfold decodeN
      rw [if_neg (by omega), if_neg (by omega), if_neg (by omega), if_neg (by omega)]
    have hq : sgn l = (0, 0) := by
      rw [HS.out, hd, if_pos rfl]
    clear hd
    have HQ := Lib.hid hq
    clear hq
    have g1 : ¬ (a : Int) < 128 := by omega
    have g2 : ¬ (192 : Int) ≤ (a : Int) := by omega
    have g3 : ¬ (224 : Int) ≤ (a : Int) := by omega
    have g4 : ¬ (240 : Int) ≤ (a : Int) := by omega
    have hi0 := HI0.out (by omega)
    clear h0
    have ka : (a : Int) < 256 := by omega
    try clear hA
    try clear hA2
    try clear hA3
    try clear hA4
    try clear hA5
    try clear hA'
    try clear hL
    try clear hB
    try clear hC
    try clear hD
    try clear hN
    try clear hM
    try clear hO
    clear hba hbb hbc hbd
    go_enter Tryz.func124, Tryz.ntmps124
    go_wp2_with fail
    go_ret2
    rw [HQ.out]
    first | exact ⟨rfl, Keeps.refl _ _⟩ | exact ⟨rfl, Ext.drew0 _⟩
  by_cases hA3 : a < 224
  · by_cases hL : 2 ≤ l.length
    · by_cases hB : b / 64 = 2
      · have HB := Lib.hid hB
        obtain ⟨p, hnp⟩ : ∃ p : Nat, a = p + 192 := ⟨a - 192, by omega⟩
        obtain ⟨b1, hnb1⟩ : ∃ b1 : Nat, b = b1 + 128 := ⟨b - 128, by omega⟩
        obtain ⟨q, hnq⟩ : ∃ q : Nat, q = p * 64 := ⟨_, rfl⟩
        obtain ⟨r, hnr⟩ : ∃ r : Nat, r = q + b := ⟨_, rfl⟩
        obtain ⟨n, hnn⟩ : ∃ n : Nat, n = q + b1 := ⟨_, rfl⟩
        by_cases hN : 128 ≤ n
        · skip
          have hd : decodeN l.length a b c d = (n, 2) := by
            unfold decodeN
            rw [if_neg (by omega), if_pos ⟨by omega, by omega, hB⟩, if_pos (by omega)]
            exact Prod.ext (by show _ = n; omega) rfl
          have hq : sgn l = (n, 2) := by
            rw [HS.out, hd, if_neg (fun h => by have := congrArg Prod.snd h; simp at this)]
          clear hd
          have HQ := Lib.hid hq
          clear hq
          have g1 : ¬ (a : Int) < 128 := by omega
          have g2 : (192 : Int) ≤ (a : Int) := by omega
          have g3 : (a : Int) < 224 := by omega
          have g4 : ¬ (224 : Int) ≤ (a : Int) := by omega
          have g5 : ¬ (240 : Int) ≤ (a : Int) := by omega
          have gl : (2 : Int) ≤ (l.length : Int) := by omega
          have gn : (128 : Int) ≤ (((a : Int) - 192) * 64 + (b : Int) - 128) := by omega
          have hi0 := HI0.out (by omega)
          have hi1 := HI1.out (by omega)
          have HE := Lib.hid (show (n : Int) = (((a : Int) - 192) * 64 + (b : Int) - 128) from by omega)
          clear hnp hnb1 hnq hnr hnn h0
          have kb : (128 : Int) ≤ (b : Int) ∧ (b : Int) < 192 := by omega
          have kb1 := kb.1
          have kb2 := kb.2
          clear kb
          have ka : (a : Int) < 256 := by omega
          try clear hA
          try clear hA2
          try clear hA3
          try clear hA4
          try clear hA5
          try clear hA'
          try clear hL
          try clear hB
          try clear hC
          try clear hD
          try clear hN
          try clear hM
          try clear hO
          clear hba hbb hbc hbd
          go_enter Tryz.func124, Tryz.ntmps124
          go_wp2_with fail
          refine (more_nat _ _ HBb.out).mono ?_
          rintro e w1 ⟨rfl, hw⟩
          rw [hw, show decide (b / 64 = 2) = true from decide_eq_true HB.out]
          clear hw w1
          go_wp2_with fail
          go_ret2
          rw [HQ.out]
          dsimp only
          rw [HE.out]
          first | exact ⟨rfl, Keeps.refl _ _⟩ | exact ⟨rfl, Ext.drew0 _⟩
        · skip
          have hd : decodeN l.length a b c d = (65533, 1) := by
            unfold decodeN
            rw [if_neg (by omega), if_pos ⟨by omega, by omega, hB⟩, if_neg (by omega)]
          have hq : sgn l = (0, 0) := by
            rw [HS.out, hd, if_pos rfl]
          clear hd
          have HQ := Lib.hid hq
          clear hq
          have g1 : ¬ (a : Int) < 128 := by omega
          have g2 : (192 : Int) ≤ (a : Int) := by omega
          have g3 : (a : Int) < 224 := by omega
          have g4 : ¬ (224 : Int) ≤ (a : Int) := by omega
          have g5 : ¬ (240 : Int) ≤ (a : Int) := by omega
          have gl : (2 : Int) ≤ (l.length : Int) := by omega
          have gn : ¬ (128 : Int) ≤ (((a : Int) - 192) * 64 + (b : Int) - 128) := by omega
          have hi0 := HI0.out (by omega)
          have hi1 := HI1.out (by omega)
          clear hnp hnb1 hnq hnr hnn h0
          have kb : (128 : Int) ≤ (b : Int) ∧ (b : Int) < 192 := by omega
          have kb1 := kb.1
          have kb2 := kb.2
          clear kb
          have ka : (a : Int) < 256 := by omega
          try clear hA
          try clear hA2
          try clear hA3
          try clear hA4
          try clear hA5
          try clear hA'
          try clear hL
          try clear hB
          try clear hC
          try clear hD
          try clear hN
          try clear hM
          try clear hO
          clear hba hbb hbc hbd
          go_enter Tryz.func124, Tryz.ntmps124
          go_wp2_with fail
          refine (more_nat _ _ HBb.out).mono ?_
          rintro e w1 ⟨rfl, hw⟩
          rw [hw, show decide (b / 64 = 2) = true from decide_eq_true HB.out]
          clear hw w1
          go_wp2_with fail
          go_ret2
          rw [HQ.out]
          first | exact ⟨rfl, Keeps.refl _ _⟩ | exact ⟨rfl, Ext.drew0 _⟩
      · have HB := Lib.hid hB
        have hd : decodeN l.length a b c d = (65533, 1) := by
          unfold decodeN
          rw [if_neg (by omega), if_neg (by omega), if_neg (by omega), if_neg (by omega)]
        have hq : sgn l = (0, 0) := by
          rw [HS.out, hd, if_pos rfl]
        clear hd
        have HQ := Lib.hid hq
        clear hq
        have g1 : ¬ (a : Int) < 128 := by omega
        have g2 : (192 : Int) ≤ (a : Int) := by omega
        have g3 : (a : Int) < 224 := by omega
        have g4 : ¬ (224 : Int) ≤ (a : Int) := by omega
        have g5 : ¬ (240 : Int) ≤ (a : Int) := by omega
        have gl : (2 : Int) ≤ (l.length : Int) := by omega
        have hi0 := HI0.out (by omega)
        have hi1 := HI1.out (by omega)
        clear h0
        have ka : (a : Int) < 256 := by omega
        try clear hA
        try clear hA2
        try clear hA3
        try clear hA4
        try clear hA5
        try clear hA'
        try clear hL
        try clear hB
        try clear hC
        try clear hD
        try clear hN
        try clear hM
        try clear hO
        clear hba hbb hbc hbd
        go_enter Tryz.func124, Tryz.ntmps124
        go_wp2_with fail
        refine (more_nat _ _ HBb.out).mono ?_
        rintro e w1 ⟨rfl, hw⟩
        rw [hw, show decide (b / 64 = 2) = false from decide_eq_false HB.out]
        clear hw w1
        go_wp2_with fail
        go_ret2
        rw [HQ.out]
        first | exact ⟨rfl, Keeps.refl _ _⟩ | exact ⟨rfl, Ext.drew0 _⟩
    · skip
      have hd : decodeN l.length a b c d = (65533, 1) := by
        unfold decodeN
        rw [if_neg (by omega), if_neg (by omega), if_neg (by omega), if_neg (by omega)]
      have hq : sgn l = (0, 0) := by
        rw [HS.out, hd, if_pos rfl]
      clear hd
      have HQ := Lib.hid hq
      clear hq
      have g1 : ¬ (a : Int) < 128 := by omega
      have g2 : (192 : Int) ≤ (a : Int) := by omega
      have g3 : (a : Int) < 224 := by omega
      have g4 : ¬ (224 : Int) ≤ (a : Int) := by omega
      have g5 : ¬ (240 : Int) ≤ (a : Int) := by omega
      have gl : ¬ (2 : Int) ≤ (l.length : Int) := by omega
      have hi0 := HI0.out (by omega)
      clear h0
      have ka : (a : Int) < 256 := by omega
      try clear hA
      try clear hA2
      try clear hA3
      try clear hA4
      try clear hA5
      try clear hA'
      try clear hL
      try clear hB
      try clear hC
      try clear hD
      try clear hN
      try clear hM
      try clear hO
      clear hba hbb hbc hbd
      go_enter Tryz.func124, Tryz.ntmps124
      go_wp2_with fail
      go_ret2
      rw [HQ.out]
      first | exact ⟨rfl, Keeps.refl _ _⟩ | exact ⟨rfl, Ext.drew0 _⟩
  by_cases hA4 : a < 240
  · by_cases hL : 3 ≤ l.length
    · by_cases hB : b / 64 = 2
      · have HB := Lib.hid hB
        by_cases hC : c / 64 = 2
        · have HC := Lib.hid hC
          obtain ⟨p, hnp⟩ : ∃ p : Nat, a = p + 224 := ⟨a - 224, by omega⟩
          obtain ⟨b1, hnb1⟩ : ∃ b1 : Nat, b = b1 + 128 := ⟨b - 128, by omega⟩
          obtain ⟨c1, hnc1⟩ : ∃ c1 : Nat, c = c1 + 128 := ⟨c - 128, by omega⟩
          obtain ⟨q, hnq⟩ : ∃ q : Nat, q = p * 64 := ⟨_, rfl⟩
          obtain ⟨r, hnr⟩ : ∃ r : Nat, r = q + b := ⟨_, rfl⟩
          obtain ⟨s, hns⟩ : ∃ s : Nat, s = q + b1 := ⟨_, rfl⟩
          obtain ⟨t, hnt⟩ : ∃ t : Nat, t = s * 64 := ⟨_, rfl⟩
          obtain ⟨u, hnu⟩ : ∃ u : Nat, u = t + c := ⟨_, rfl⟩
          obtain ⟨n, hnn⟩ : ∃ n : Nat, n = t + c1 := ⟨_, rfl⟩
          by_cases hN : 2048 ≤ n
          · by_cases hM : n < 55296
            · skip
              have hd : decodeN l.length a b c d = (n, 3) := by
                unfold decodeN
                rw [if_neg (by omega), if_neg (by omega), if_pos ⟨by omega, ⟨by omega, hB⟩, by omega, hC⟩, if_pos (by omega)]
                exact Prod.ext (by show _ = n; omega) rfl
              have hq : sgn l = (n, 3) := by
                rw [HS.out, hd, if_neg (fun h => by have := congrArg Prod.snd h; simp at this)]
              clear hd
              have HQ := Lib.hid hq
              clear hq
              have g1 : ¬ (a : Int) < 128 := by omega
              have g2 : (192 : Int) ≤ (a : Int) := by omega
              have g3 : ¬ (a : Int) < 224 := by omega
              have g4 : (224 : Int) ≤ (a : Int) := by omega
              have g5 : (a : Int) < 240 := by omega
              have g6 : ¬ (240 : Int) ≤ (a : Int) := by omega
              have gl : (3 : Int) ≤ (l.length : Int) := by omega
              have gn : (2048 : Int) ≤ ((((a : Int) - 224) * 64 + (b : Int) - 128) * 64 + (c : Int) - 128) := by omega
              have gm : ((((a : Int) - 224) * 64 + (b : Int) - 128) * 64 + (c : Int) - 128) < 55296 := by omega
              have hi0 := HI0.out (by omega)
              have hi1 := HI1.out (by omega)
              have hi2 := HI2.out (by omega)
              have HE := Lib.hid (show (n : Int) = ((((a : Int) - 224) * 64 + (b : Int) - 128) * 64 + (c : Int) - 128) from by omega)
              clear hnp hnb1 hnc1 hnq hnr hns hnt hnu hnn h0
              have kb : (128 : Int) ≤ (b : Int) ∧ (b : Int) < 192 := by omega
              have kb1 := kb.1
              have kb2 := kb.2
              clear kb
              have kc : (128 : Int) ≤ (c : Int) ∧ (c : Int) < 192 := by omega
              have kc1 := kc.1
              have kc2 := kc.2
              clear kc
              have ka : (a : Int) < 256 := by omega
              try clear hA
              try clear hA2
              try clear hA3
              try clear hA4
              try clear hA5
              try clear hA'
              try clear hL
              try clear hB
              try clear hC
              try clear hD
              try clear hN
              try clear hM
              try clear hO
              clear hba hbb hbc hbd
              go_enter Tryz.func124, Tryz.ntmps124
              go_wp2_with fail
              refine (more_nat _ _ HBb.out).mono ?_
              rintro e w1 ⟨rfl, hw⟩
              rw [hw, show decide (b / 64 = 2) = true from decide_eq_true HB.out]
              clear hw w1
              go_wp2_with fail
              refine (more_nat _ _ HBc.out).mono ?_
              rintro e w1 ⟨rfl, hw⟩
              rw [hw, show decide (c / 64 = 2) = true from decide_eq_true HC.out]
              clear hw w1
              go_wp2_with fail
              have hE0 : Keeps NoB w w.drew := (Keeps.refl _ _).drew
              refine wp_region_plan [(0, 0), (0, 1), (0, 2), (0, 3), (0, 4), (3, 5), (0, 6), (0, 7), (0, 8), (0, 9), (0, 10), (3, 11), (0, 12), (0, 13), (0, 14)] [] [] [] (ClsE w) (by kernel_rfl) (by kernel_rfl) (by kernel_rfl) rfl rfl (ClsE.of hE0) (fun _ _ _ d _ h => by cases d <;> exact h) ?_; simp only [planL, nL]
              refine pM _ rfl rfl ?_; simp only [nP, nE]
              iterate 2 (refine pR (v := ?_) rfl (fun W => ?_) ?_; rotate_left; (go_simp <;> with_reducible rfl); simp only [nP])
              refine pM _ rfl rfl ?_; simp only [nP, nE]
              refine pR (v := ?_) rfl (fun W => ?_) ?_; rotate_left; (go_simp <;> with_reducible rfl); simp only [nP]
              refine pX (v := ?_) rfl ?_ ?_; rotate_left; (go_simp <;> with_reducible rfl); simp only [nP]
              iterate 3 (refine pR (v := ?_) rfl (fun W => ?_) ?_; rotate_left; (go_simp <;> with_reducible rfl); simp only [nP])
              refine pM _ rfl rfl ?_; simp only [nP, nE]
              refine pR (v := ?_) rfl (fun W => ?_) ?_; rotate_left; (go_simp <;> with_reducible rfl); simp only [nP]
              refine pX (v := ?_) rfl ?_ ?_; rotate_left; (go_simp <;> with_reducible rfl); simp only [nP]
              iterate 2 (refine pR (v := ?_) rfl (fun W => ?_) ?_; rotate_left; (go_simp <;> with_reducible rfl); simp only [nP])
              refine pA _ rfl rfl ?_; simp only [nP, nE]
              refine plan_nil ?_; simp only [tailL, List.filterMap_nil]
              go_wp2_with fail
              go_ret2
              rw [HQ.out]
              dsimp only
              rw [HE.out]
              first | exact ⟨rfl, Keeps.refl _ _⟩ | exact ⟨rfl, Ext.drew0 _⟩
            · by_cases hO : 57343 < n
              · skip
                have hd : decodeN l.length a b c d = (n, 3) := by
                  unfold decodeN
                  rw [if_neg (by omega), if_neg (by omega), if_pos ⟨by omega, ⟨by omega, hB⟩, by omega, hC⟩, if_pos (by omega)]
                  exact Prod.ext (by show _ = n; omega) rfl
                have hq : sgn l = (n, 3) := by
                  rw [HS.out, hd, if_neg (fun h => by have := congrArg Prod.snd h; simp at this)]
                clear hd
                have HQ := Lib.hid hq
                clear hq
                have g1 : ¬ (a : Int) < 128 := by omega
                have g2 : (192 : Int) ≤ (a : Int) := by omega
                have g3 : ¬ (a : Int) < 224 := by omega
                have g4 : (224 : Int) ≤ (a : Int) := by omega
                have g5 : (a : Int) < 240 := by omega
                have g6 : ¬ (240 : Int) ≤ (a : Int) := by omega
                have gl : (3 : Int) ≤ (l.length : Int) := by omega
                have gn : (2048 : Int) ≤ ((((a : Int) - 224) * 64 + (b : Int) - 128) * 64 + (c : Int) - 128) := by omega
                have gm : ¬ ((((a : Int) - 224) * 64 + (b : Int) - 128) * 64 + (c : Int) - 128) < 55296 := by omega
                have go : (57343 : Int) < ((((a : Int) - 224) * 64 + (b : Int) - 128) * 64 + (c : Int) - 128) := by omega
                have hi0 := HI0.out (by omega)
                have hi1 := HI1.out (by omega)
                have hi2 := HI2.out (by omega)
                have HE := Lib.hid (show (n : Int) = ((((a : Int) - 224) * 64 + (b : Int) - 128) * 64 + (c : Int) - 128) from by omega)
                clear hnp hnb1 hnc1 hnq hnr hns hnt hnu hnn h0
                have kb : (128 : Int) ≤ (b : Int) ∧ (b : Int) < 192 := by omega
                have kb1 := kb.1
                have kb2 := kb.2
                clear kb
                have kc : (128 : Int) ≤ (c : Int) ∧ (c : Int) < 192 := by omega
                have kc1 := kc.1
                have kc2 := kc.2
                clear kc
                have ka : (a : Int) < 256 := by omega
                try clear hA
                try clear hA2
                try clear hA3
                try clear hA4
                try clear hA5
                try clear hA'
                try clear hL
                try clear hB
                try clear hC
                try clear hD
                try clear hN
                try clear hM
                try clear hO
                clear hba hbb hbc hbd
                go_enter Tryz.func124, Tryz.ntmps124
                go_wp2_with fail
                refine (more_nat _ _ HBb.out).mono ?_
                rintro e w1 ⟨rfl, hw⟩
                rw [hw, show decide (b / 64 = 2) = true from decide_eq_true HB.out]
                clear hw w1
                go_wp2_with fail
                refine (more_nat _ _ HBc.out).mono ?_
                rintro e w1 ⟨rfl, hw⟩
                rw [hw, show decide (c / 64 = 2) = true from decide_eq_true HC.out]
                clear hw w1
                go_wp2_with fail
                have hE0 : Keeps NoB w w.drew := (Keeps.refl _ _).drew
                refine wp_region_plan [(0, 0), (0, 1), (0, 2), (0, 3), (0, 4), (3, 5), (0, 6), (0, 7), (0, 8), (0, 9), (0, 10), (3, 11), (0, 12), (0, 13), (0, 14)] [] [] [] (ClsE w) (by kernel_rfl) (by kernel_rfl) (by kernel_rfl) rfl rfl (ClsE.of hE0) (fun _ _ _ d _ h => by cases d <;> exact h) ?_; simp only [planL, nL]
                refine pM _ rfl rfl ?_; simp only [nP, nE]
                iterate 2 (refine pR (v := ?_) rfl (fun W => ?_) ?_; rotate_left; (go_simp <;> with_reducible rfl); simp only [nP])
                refine pM _ rfl rfl ?_; simp only [nP, nE]
                refine pR (v := ?_) rfl (fun W => ?_) ?_; rotate_left; (go_simp <;> with_reducible rfl); simp only [nP]
                refine pX (v := ?_) rfl ?_ ?_; rotate_left; (go_simp <;> with_reducible rfl); simp only [nP]
                iterate 3 (refine pR (v := ?_) rfl (fun W => ?_) ?_; rotate_left; (go_simp <;> with_reducible rfl); simp only [nP])
                refine pM _ rfl rfl ?_; simp only [nP, nE]
                refine pR (v := ?_) rfl (fun W => ?_) ?_; rotate_left; (go_simp <;> with_reducible rfl); simp only [nP]
                refine pX (v := ?_) rfl ?_ ?_; rotate_left; (go_simp <;> with_reducible rfl); simp only [nP]
                iterate 2 (refine pR (v := ?_) rfl (fun W => ?_) ?_; rotate_left; (go_simp <;> with_reducible rfl); simp only [nP])
                refine pA _ rfl rfl ?_; simp only [nP, nE]
                refine plan_nil ?_; simp only [tailL, List.filterMap_nil]
                go_wp2_with fail
                go_ret2
                rw [HQ.out]
                dsimp only
                rw [HE.out]
                first | exact ⟨rfl, Keeps.refl _ _⟩ | exact ⟨rfl, Ext.drew0 _⟩
              · skip
                have hd : decodeN l.length a b c d = (65533, 1) := by
                  unfold decodeN
                  rw [if_neg (by omega), if_neg (by omega), if_pos ⟨by omega, ⟨by omega, hB⟩, by omega, hC⟩, if_neg (by omega)]
                have hq : sgn l = (0, 0) := by
                  rw [HS.out, hd, if_pos rfl]
                clear hd
                have HQ := Lib.hid hq
                clear hq
                have g1 : ¬ (a : Int) < 128 := by omega
                have g2 : (192 : Int) ≤ (a : Int) := by omega
                have g3 : ¬ (a : Int) < 224 := by omega
                have g4 : (224 : Int) ≤ (a : Int) := by omega
                have g5 : (a : Int) < 240 := by omega
                have g6 : ¬ (240 : Int) ≤ (a : Int) := by omega
                have gl : (3 : Int) ≤ (l.length : Int) := by omega
                have gn : (2048 : Int) ≤ ((((a : Int) - 224) * 64 + (b : Int) - 128) * 64 + (c : Int) - 128) := by omega
                have gm : ¬ ((((a : Int) - 224) * 64 + (b : Int) - 128) * 64 + (c : Int) - 128) < 55296 := by omega
                have go : ¬ (57343 : Int) < ((((a : Int) - 224) * 64 + (b : Int) - 128) * 64 + (c : Int) - 128) := by omega
                have hi0 := HI0.out (by omega)
                have hi1 := HI1.out (by omega)
                have hi2 := HI2.out (by omega)
                clear hnp hnb1 hnc1 hnq hnr hns hnt hnu hnn h0
                have kb : (128 : Int) ≤ (b : Int) ∧ (b : Int) < 192 := by omega
                have kb1 := kb.1
                have kb2 := kb.2
                clear kb
                have kc : (128 : Int) ≤ (c : Int) ∧ (c : Int) < 192 := by omega
                have kc1 := kc.1
                have kc2 := kc.2
                clear kc
                have ka : (a : Int) < 256 := by omega
                try clear hA
                try clear hA2
                try clear hA3
                try clear hA4
                try clear hA5
                try clear hA'
                try clear hL
                try clear hB
                try clear hC
                try clear hD
                try clear hN
                try clear hM
                try clear hO
                clear hba hbb hbc hbd
                go_enter Tryz.func124, Tryz.ntmps124
                go_wp2_with fail
                refine (more_nat _ _ HBb.out).mono ?_
                rintro e w1 ⟨rfl, hw⟩
                rw [hw, show decide (b / 64 = 2) = true from decide_eq_true HB.out]
                clear hw w1
                go_wp2_with fail
                refine (more_nat _ _ HBc.out).mono ?_
                rintro e w1 ⟨rfl, hw⟩
                rw [hw, show decide (c / 64 = 2) = true from decide_eq_true HC.out]
                clear hw w1
                go_wp2_with fail
                have hE0 : Keeps NoB w w.drew := (Keeps.refl _ _).drew
                refine wp_region_plan [(0, 0), (0, 1), (0, 2), (0, 3), (0, 4), (3, 5), (0, 6), (0, 7), (0, 8), (0, 9), (0, 10), (3, 11), (0, 12), (0, 13), (0, 14)] [] [] [] (ClsE w) (by kernel_rfl) (by kernel_rfl) (by kernel_rfl) rfl rfl (ClsE.of hE0) (fun _ _ _ d _ h => by cases d <;> exact h) ?_; simp only [planL, nL]
                refine pM _ rfl rfl ?_; simp only [nP, nE]
                iterate 2 (refine pR (v := ?_) rfl (fun W => ?_) ?_; rotate_left; (go_simp <;> with_reducible rfl); simp only [nP])
                refine pM _ rfl rfl ?_; simp only [nP, nE]
                refine pR (v := ?_) rfl (fun W => ?_) ?_; rotate_left; (go_simp <;> with_reducible rfl); simp only [nP]
                refine pX (v := ?_) rfl ?_ ?_; rotate_left; (go_simp <;> with_reducible rfl); simp only [nP]
                iterate 3 (refine pR (v := ?_) rfl (fun W => ?_) ?_; rotate_left; (go_simp <;> with_reducible rfl); simp only [nP])
                refine pM _ rfl rfl ?_; simp only [nP, nE]
                refine pR (v := ?_) rfl (fun W => ?_) ?_; rotate_left; (go_simp <;> with_reducible rfl); simp only [nP]
                refine pX (v := ?_) rfl ?_ ?_; rotate_left; (go_simp <;> with_reducible rfl); simp only [nP]
                iterate 2 (refine pR (v := ?_) rfl (fun W => ?_) ?_; rotate_left; (go_simp <;> with_reducible rfl); simp only [nP])
                refine pA _ rfl rfl ?_; simp only [nP, nE]
                refine plan_nil ?_; simp only [tailL, List.filterMap_nil]
                go_wp2_with fail
                go_ret2
                rw [HQ.out]
                first | exact ⟨rfl, Keeps.refl _ _⟩ | exact ⟨rfl, Ext.drew0 _⟩
          · skip
            have hd : decodeN l.length a b c d = (65533, 1) := by
              unfold decodeN
              rw [if_neg (by omega), if_neg (by omega), if_pos ⟨by omega, ⟨by omega, hB⟩, by omega, hC⟩, if_neg (by omega)]
            have hq : sgn l = (0, 0) := by
              rw [HS.out, hd, if_pos rfl]
            clear hd
            have HQ := Lib.hid hq
            clear hq
            have g1 : ¬ (a : Int) < 128 := by omega
            have g2 : (192 : Int) ≤ (a : Int) := by omega
            have g3 : ¬ (a : Int) < 224 := by omega
            have g4 : (224 : Int) ≤ (a : Int) := by omega
            have g5 : (a : Int) < 240 := by omega
            have g6 : ¬ (240 : Int) ≤ (a : Int) := by omega
            have gl : (3 : Int) ≤ (l.length : Int) := by omega
            have gn : ¬ (2048 : Int) ≤ ((((a : Int) - 224) * 64 + (b : Int) - 128) * 64 + (c : Int) - 128) := by omega
            have hi0 := HI0.out (by omega)
            have hi1 := HI1.out (by omega)
            have hi2 := HI2.out (by omega)
            clear hnp hnb1 hnc1 hnq hnr hns hnt hnu hnn h0
            have kb : (128 : Int) ≤ (b : Int) ∧ (b : Int) < 192 := by omega
            have kb1 := kb.1
            have kb2 := kb.2
            clear kb
            have kc : (128 : Int) ≤ (c : Int) ∧ (c : Int) < 192 := by omega
            have kc1 := kc.1
            have kc2 := kc.2
            clear kc
            have ka : (a : Int) < 256 := by omega
            try clear hA
            try clear hA2
            try clear hA3
            try clear hA4
            try clear hA5
            try clear hA'
            try clear hL
            try clear hB
            try clear hC
            try clear hD
            try clear hN
            try clear hM
            try clear hO
            clear hba hbb hbc hbd
            go_enter Tryz.func124, Tryz.ntmps124
            go_wp2_with fail
            refine (more_nat _ _ HBb.out).mono ?_
            rintro e w1 ⟨rfl, hw⟩
            rw [hw, show decide (b / 64 = 2) = true from decide_eq_true HB.out]
            clear hw w1
            go_wp2_with fail
            refine (more_nat _ _ HBc.out).mono ?_
            rintro e w1 ⟨rfl, hw⟩
            rw [hw, show decide (c / 64 = 2) = true from decide_eq_true HC.out]
            clear hw w1
            go_wp2_with fail
            have hE0 : Keeps NoB w w.drew := (Keeps.refl _ _).drew
            refine wp_region_plan [(0, 0), (0, 1), (0, 2), (0, 3), (0, 4), (3, 5), (0, 6), (0, 7), (0, 8), (0, 9), (0, 10), (3, 11), (0, 12), (0, 13), (0, 14)] [] [] [] (ClsE w) (by kernel_rfl) (by kernel_rfl) (by kernel_rfl) rfl rfl (ClsE.of hE0) (fun _ _ _ d _ h => by cases d <;> exact h) ?_; simp only [planL, nL]
            refine pM _ rfl rfl ?_; simp only [nP, nE]
            iterate 2 (refine pR (v := ?_) rfl (fun W => ?_) ?_; rotate_left; (go_simp <;> with_reducible rfl); simp only [nP])
            refine pM _ rfl rfl ?_; simp only [nP, nE]
            refine pR (v := ?_) rfl (fun W => ?_) ?_; rotate_left; (go_simp <;> with_reducible rfl); simp only [nP]
            refine pX (v := ?_) rfl ?_ ?_; rotate_left; (go_simp <;> with_reducible rfl); simp only [nP]
            iterate 3 (refine pR (v := ?_) rfl (fun W => ?_) ?_; rotate_left; (go_simp <;> with_reducible rfl); simp only [nP])
            refine pM _ rfl rfl ?_; simp only [nP, nE]
            refine pR (v := ?_) rfl (fun W => ?_) ?_; rotate_left; (go_simp <;> with_reducible rfl); simp only [nP]
            refine pX (v := ?_) rfl ?_ ?_; rotate_left; (go_simp <;> with_reducible rfl); simp only [nP]
            iterate 2 (refine pR (v := ?_) rfl (fun W => ?_) ?_; rotate_left; (go_simp <;> with_reducible rfl); simp only [nP])
            refine pA _ rfl rfl ?_; simp only [nP, nE]
            refine plan_nil ?_; simp only [tailL, List.filterMap_nil]
            go_wp2_with fail
            go_ret2
            rw [HQ.out]
            first | exact ⟨rfl, Keeps.refl _ _⟩ | exact ⟨rfl, Ext.drew0 _⟩
        · have HC := Lib.hid hC
          have hd : decodeN l.length a b c d = (65533, 1) := by
            unfold decodeN
            rw [if_neg (by omega), if_neg (by omega), if_neg (by omega), if_neg (by omega)]
          have hq : sgn l = (0, 0) := by
            rw [HS.out, hd, if_pos rfl]
          clear hd
          have HQ := Lib.hid hq
          clear hq
          have g1 : ¬ (a : Int) < 128 := by omega
          have g2 : (192 : Int) ≤ (a : Int) := by omega
          have g3 : ¬ (a : Int) < 224 := by omega
          have g4 : (224 : Int) ≤ (a : Int) := by omega
          have g5 : (a : Int) < 240 := by omega
          have g6 : ¬ (240 : Int) ≤ (a : Int) := by omega
          have gl : (3 : Int) ≤ (l.length : Int) := by omega
          have hi0 := HI0.out (by omega)
          have hi1 := HI1.out (by omega)
          have hi2 := HI2.out (by omega)
          clear h0
          have kb : (128 : Int) ≤ (b : Int) ∧ (b : Int) < 192 := by omega
          have kb1 := kb.1
          have kb2 := kb.2
          clear kb
          have ka : (a : Int) < 256 := by omega
          try clear hA
          try clear hA2
          try clear hA3
          try clear hA4
          try clear hA5
          try clear hA'
          try clear hL
          try clear hB
          try clear hC
          try clear hD
          try clear hN
          try clear hM
          try clear hO
          clear hba hbb hbc hbd
          go_enter Tryz.func124, Tryz.ntmps124
          go_wp2_with fail
          refine (more_nat _ _ HBb.out).mono ?_
          rintro e w1 ⟨rfl, hw⟩
          rw [hw, show decide (b / 64 = 2) = true from decide_eq_true HB.out]
          clear hw w1
          go_wp2_with fail
          refine (more_nat _ _ HBc.out).mono ?_
          rintro e w1 ⟨rfl, hw⟩
          rw [hw, show decide (c / 64 = 2) = false from decide_eq_false HC.out]
          clear hw w1
          go_wp2_with fail
          go_ret2
          rw [HQ.out]
          first | exact ⟨rfl, Keeps.refl _ _⟩ | exact ⟨rfl, Ext.drew0 _⟩
      · have HB := Lib.hid hB
        have hd : decodeN l.length a b c d = (65533, 1) := by
          unfold decodeN
          rw [if_neg (by omega), if_neg (by omega), if_neg (by omega), if_neg (by omega)]
        have hq : sgn l = (0, 0) := by
          rw [HS.out, hd, if_pos rfl]
        clear hd
        have HQ := Lib.hid hq
        clear hq
        have g1 : ¬ (a : Int) < 128 := by omega
        have g2 : (192 : Int) ≤ (a : Int) := by omega
        have g3 : ¬ (a : Int) < 224 := by omega
        have g4 : (224 : Int) ≤ (a : Int) := by omega
        have g5 : (a : Int) < 240 := by omega
        have g6 : ¬ (240 : Int) ≤ (a : Int) := by omega
        have gl : (3 : Int) ≤ (l.length : Int) := by omega
        have hi0 := HI0.out (by omega)
        have hi1 := HI1.out (by omega)
        clear h0
        have ka : (a : Int) < 256 := by omega
        try clear hA
        try clear hA2
        try clear hA3
        try clear hA4
        try clear hA5
        try clear hA'
        try clear hL
        try clear hB
        try clear hC
        try clear hD
        try clear hN
        try clear hM
        try clear hO
        clear hba hbb hbc hbd
        go_enter Tryz.func124, Tryz.ntmps124
        go_wp2_with fail
        refine (more_nat _ _ HBb.out).mono ?_
        rintro e w1 ⟨rfl, hw⟩
        rw [hw, show decide (b / 64 = 2) = false from decide_eq_false HB.out]
        clear hw w1
        go_wp2_with fail
        go_ret2
        rw [HQ.out]
        first | exact ⟨rfl, Keeps.refl _ _⟩ | exact ⟨rfl, Ext.drew0 _⟩
    · skip
      have hd : decodeN l.length a b c d = (65533, 1) := by
        unfold decodeN
        rw [if_neg (by omega), if_neg (by omega), if_neg (by omega), if_neg (by omega)]
      have hq : sgn l = (0, 0) := by
        rw [HS.out, hd, if_pos rfl]
      clear hd
      have HQ := Lib.hid hq
      clear hq
      have g1 : ¬ (a : Int) < 128 := by omega
      have g2 : (192 : Int) ≤ (a : Int) := by omega
      have g3 : ¬ (a : Int) < 224 := by omega
      have g4 : (224 : Int) ≤ (a : Int) := by omega
      have g5 : (a : Int) < 240 := by omega
      have g6 : ¬ (240 : Int) ≤ (a : Int) := by omega
      have gl : ¬ (3 : Int) ≤ (l.length : Int) := by omega
      have hi0 := HI0.out (by omega)
      clear h0
      have ka : (a : Int) < 256 := by omega
      try clear hA
      try clear hA2
      try clear hA3
      try clear hA4
      try clear hA5
      try clear hA'
      try clear hL
      try clear hB
      try clear hC
      try clear hD
      try clear hN
      try clear hM
      try clear hO
      clear hba hbb hbc hbd
      go_enter Tryz.func124, Tryz.ntmps124
      go_wp2_with fail
      go_ret2
      rw [HQ.out]
      first | exact ⟨rfl, Keeps.refl _ _⟩ | exact ⟨rfl, Ext.drew0 _⟩
  by_cases hA5 : a < 248
  · by_cases hL : 4 ≤ l.length
    · by_cases hB : b / 64 = 2
      · have HB := Lib.hid hB
        by_cases hC : c / 64 = 2
        · have HC := Lib.hid hC
          by_cases hD : d / 64 = 2
          · have HD := Lib.hid hD
            obtain ⟨p, hnp⟩ : ∃ p : Nat, a = p + 240 := ⟨a - 240, by omega⟩
            obtain ⟨b1, hnb1⟩ : ∃ b1 : Nat, b = b1 + 128 := ⟨b - 128, by omega⟩
            obtain ⟨c1, hnc1⟩ : ∃ c1 : Nat, c = c1 + 128 := ⟨c - 128, by omega⟩
            obtain ⟨d1, hnd1⟩ : ∃ d1 : Nat, d = d1 + 128 := ⟨d - 128, by omega⟩
            obtain ⟨q, hnq⟩ : ∃ q : Nat, q = p * 64 := ⟨_, rfl⟩
            obtain ⟨r, hnr⟩ : ∃ r : Nat, r = q + b := ⟨_, rfl⟩
            obtain ⟨s, hns⟩ : ∃ s : Nat, s = q + b1 := ⟨_, rfl⟩
            obtain ⟨t, hnt⟩ : ∃ t : Nat, t = s * 64 := ⟨_, rfl⟩
            obtain ⟨u, hnu⟩ : ∃ u : Nat, u = t + c := ⟨_, rfl⟩
            obtain ⟨x, hnx⟩ : ∃ x : Nat, x = t + c1 := ⟨_, rfl⟩
            obtain ⟨y, hny⟩ : ∃ y : Nat, y = x * 64 := ⟨_, rfl⟩
            obtain ⟨z, hnz⟩ : ∃ z : Nat, z = y + d := ⟨_, rfl⟩
            obtain ⟨n, hnn⟩ : ∃ n : Nat, n = y + d1 := ⟨_, rfl⟩
            by_cases hN : 65536 ≤ n
            · by_cases hM : n ≤ 1114111
              · skip
                have hd : decodeN l.length a b c d = (n, 4) := by
                  unfold decodeN
                  rw [if_neg (by omega), if_neg (by omega), if_neg (by omega), if_pos ⟨by omega, ⟨by omega, hB⟩, ⟨by omega, hC⟩, by omega, hD⟩, if_pos (by omega)]
                  exact Prod.ext (by show _ = n; omega) rfl
                have hq : sgn l = (n, 4) := by
                  rw [HS.out, hd, if_neg (fun h => by have := congrArg Prod.snd h; simp at this)]
                clear hd
                have HQ := Lib.hid hq
                clear hq
                have g1 : ¬ (a : Int) < 128 := by omega
                have g2 : (192 : Int) ≤ (a : Int) := by omega
                have g3 : ¬ (a : Int) < 224 := by omega
                have g4 : (224 : Int) ≤ (a : Int) := by omega
                have g5 : ¬ (a : Int) < 240 := by omega
                have g6 : (240 : Int) ≤ (a : Int) := by omega
                have g7 : (a : Int) < 248 := by omega
                have gl : (4 : Int) ≤ (l.length : Int) := by omega
                have gn : (65536 : Int) ≤ (((((a : Int) - 240) * 64 + (b : Int) - 128) * 64 + (c : Int) - 128) * 64 + (d : Int) - 128) := by omega
                have gm : (((((a : Int) - 240) * 64 + (b : Int) - 128) * 64 + (c : Int) - 128) * 64 + (d : Int) - 128) ≤ 1114111 := by omega
                have hi0 := HI0.out (by omega)
                have hi1 := HI1.out (by omega)
                have hi2 := HI2.out (by omega)
                have hi3 := HI3.out (by omega)
                have HE := Lib.hid (show (n : Int) = (((((a : Int) - 240) * 64 + (b : Int) - 128) * 64 + (c : Int) - 128) * 64 + (d : Int) - 128) from by omega)
                clear hnp hnb1 hnc1 hnd1 hnq hnr hns hnt hnu hnx hny hnz hnn h0
                have kb : (128 : Int) ≤ (b : Int) ∧ (b : Int) < 192 := by omega
                have kb1 := kb.1
                have kb2 := kb.2
                clear kb
                have kc : (128 : Int) ≤ (c : Int) ∧ (c : Int) < 192 := by omega
                have kc1 := kc.1
                have kc2 := kc.2
                clear kc
                have kd : (128 : Int) ≤ (d : Int) ∧ (d : Int) < 192 := by omega
                have kd1 := kd.1
                have kd2 := kd.2
                clear kd
                have ka : (a : Int) < 256 := by omega
                try clear hA
                try clear hA2
                try clear hA3
                try clear hA4
                try clear hA5
                try clear hA'
                try clear hL
                try clear hB
                try clear hC
                try clear hD
                try clear hN
                try clear hM
                try clear hO
                clear hba hbb hbc hbd
                go_enter Tryz.func124, Tryz.ntmps124
                go_wp2_with fail
                refine (more_nat _ _ HBb.out).mono ?_
                rintro e w1 ⟨rfl, hw⟩
                rw [hw, show decide (b / 64 = 2) = true from decide_eq_true HB.out]
                clear hw w1
                go_wp2_with fail
                refine (more_nat _ _ HBc.out).mono ?_
                rintro e w1 ⟨rfl, hw⟩
                rw [hw, show decide (c / 64 = 2) = true from decide_eq_true HC.out]
                clear hw w1
                go_wp2_with fail
                refine (more_nat _ _ HBd.out).mono ?_
                rintro e w1 ⟨rfl, hw⟩
                rw [hw, show decide (d / 64 = 2) = true from decide_eq_true HD.out]
                clear hw w1
                go_wp2_with fail
                have hE0 : Keeps NoB w w.drew := (Keeps.refl _ _).drew
                refine wp_region_plan [(0, 0), (0, 1), (0, 2), (0, 3), (0, 4), (3, 5), (0, 6), (0, 7), (0, 8), (0, 9), (0, 10), (3, 11), (0, 12), (0, 13), (0, 14), (0, 15), (0, 16), (3, 17), (0, 18), (0, 19), (0, 20)] [] [] [] (ClsE w) (by kernel_rfl) (by kernel_rfl) (by kernel_rfl) rfl rfl (ClsE.of hE0) (fun _ _ _ d _ h => by cases d <;> exact h) ?_; simp only [planL, nL]
                refine pM _ rfl rfl ?_; simp only [nP, nE]
                iterate 2 (refine pR (v := ?_) rfl (fun W => ?_) ?_; rotate_left; (go_simp <;> with_reducible rfl); simp only [nP])
                refine pM _ rfl rfl ?_; simp only [nP, nE]
                refine pR (v := ?_) rfl (fun W => ?_) ?_; rotate_left; (go_simp <;> with_reducible rfl); simp only [nP]
                refine pX (v := ?_) rfl ?_ ?_; rotate_left; (go_simp <;> with_reducible rfl); simp only [nP]
                iterate 3 (refine pR (v := ?_) rfl (fun W => ?_) ?_; rotate_left; (go_simp <;> with_reducible rfl); simp only [nP])
                refine pM _ rfl rfl ?_; simp only [nP, nE]
                refine pR (v := ?_) rfl (fun W => ?_) ?_; rotate_left; (go_simp <;> with_reducible rfl); simp only [nP]
                refine pX (v := ?_) rfl ?_ ?_; rotate_left; (go_simp <;> with_reducible rfl); simp only [nP]
                iterate 3 (refine pR (v := ?_) rfl (fun W => ?_) ?_; rotate_left; (go_simp <;> with_reducible rfl); simp only [nP])
                refine pM _ rfl rfl ?_; simp only [nP, nE]
                refine pR (v := ?_) rfl (fun W => ?_) ?_; rotate_left; (go_simp <;> with_reducible rfl); simp only [nP]
                refine pX (v := ?_) rfl ?_ ?_; rotate_left; (go_simp <;> with_reducible rfl); simp only [nP]
                iterate 2 (refine pR (v := ?_) rfl (fun W => ?_) ?_; rotate_left; (go_simp <;> with_reducible rfl); simp only [nP])
                refine pA _ rfl rfl ?_; simp only [nP, nE]
                refine plan_nil ?_; simp only [tailL, List.filterMap_nil]
                go_wp2_with fail
                go_ret2
                rw [HQ.out]
                dsimp only
                rw [HE.out]
                first | exact ⟨rfl, Keeps.refl _ _⟩ | exact ⟨rfl, Ext.drew0 _⟩
              · skip
                have hd : decodeN l.length a b c d = (65533, 1) := by
                  unfold decodeN
                  rw [if_neg (by omega), if_neg (by omega), if_neg (by omega), if_pos ⟨by omega, ⟨by omega, hB⟩, ⟨by omega, hC⟩, by omega, hD⟩, if_neg (by omega)]
                have hq : sgn l = (0, 0) := by
                  rw [HS.out, hd, if_pos rfl]
                clear hd
                have HQ := Lib.hid hq
                clear hq
                have g1 : ¬ (a : Int) < 128 := by omega
                have g2 : (192 : Int) ≤ (a : Int) := by omega
                have g3 : ¬ (a : Int) < 224 := by omega
                have g4 : (224 : Int) ≤ (a : Int) := by omega
                have g5 : ¬ (a : Int) < 240 := by omega
                have g6 : (240 : Int) ≤ (a : Int) := by omega
                have g7 : (a : Int) < 248 := by omega
                have gl : (4 : Int) ≤ (l.length : Int) := by omega
                have gn : (65536 : Int) ≤ (((((a : Int) - 240) * 64 + (b : Int) - 128) * 64 + (c : Int) - 128) * 64 + (d : Int) - 128) := by omega
                have gm : ¬ (((((a : Int) - 240) * 64 + (b : Int) - 128) * 64 + (c : Int) - 128) * 64 + (d : Int) - 128) ≤ 1114111 := by omega
                have hi0 := HI0.out (by omega)
                have hi1 := HI1.out (by omega)
                have hi2 := HI2.out (by omega)
                have hi3 := HI3.out (by omega)
                clear hnp hnb1 hnc1 hnd1 hnq hnr hns hnt hnu hnx hny hnz hnn h0
                have kb : (128 : Int) ≤ (b : Int) ∧ (b : Int) < 192 := by omega
                have kb1 := kb.1
                have kb2 := kb.2
                clear kb
                have kc : (128 : Int) ≤ (c : Int) ∧ (c : Int) < 192 := by omega
                have kc1 := kc.1
                have kc2 := kc.2
                clear kc
                have kd : (128 : Int) ≤ (d : Int) ∧ (d : Int) < 192 := by omega
                have kd1 := kd.1
                have kd2 := kd.2
                clear kd
                have ka : (a : Int) < 256 := by omega
                try clear hA
                try clear hA2
                try clear hA3
                try clear hA4
                try clear hA5
                try clear hA'
                try clear hL
                try clear hB
                try clear hC
                try clear hD
                try clear hN
                try clear hM
                try clear hO
                clear hba hbb hbc hbd
                go_enter Tryz.func124, Tryz.ntmps124
                go_wp2_with fail
                refine (more_nat _ _ HBb.out).mono ?_
                rintro e w1 ⟨rfl, hw⟩
                rw [hw, show decide (b / 64 = 2) = true from decide_eq_true HB.out]
                clear hw w1
                go_wp2_with fail
                refine (more_nat _ _ HBc.out).mono ?_
                rintro e w1 ⟨rfl, hw⟩
                rw [hw, show decide (c / 64 = 2) = true from decide_eq_true HC.out]
                clear hw w1
                go_wp2_with fail
                refine (more_nat _ _ HBd.out).mono ?_
                rintro e w1 ⟨rfl, hw⟩
                rw [hw, show decide (d / 64 = 2) = true from decide_eq_true HD.out]
                clear hw w1
                go_wp2_with fail
                have hE0 : Keeps NoB w w.drew := (Keeps.refl _ _).drew
                refine wp_region_plan [(0, 0), (0, 1), (0, 2), (0, 3), (0, 4), (3, 5), (0, 6), (0, 7), (0, 8), (0, 9), (0, 10), (3, 11), (0, 12), (0, 13), (0, 14), (0, 15), (0, 16), (3, 17), (0, 18), (0, 19), (0, 20)] [] [] [] (ClsE w) (by kernel_rfl) (by kernel_rfl) (by kernel_rfl) rfl rfl (ClsE.of hE0) (fun _ _ _ d _ h => by cases d <;> exact h) ?_; simp only [planL, nL]
                refine pM _ rfl rfl ?_; simp only [nP, nE]
                iterate 2 (refine pR (v := ?_) rfl (fun W => ?_) ?_; rotate_left; (go_simp <;> with_reducible rfl); simp only [nP])
                refine pM _ rfl rfl ?_; simp only [nP, nE]
                refine pR (v := ?_) rfl (fun W => ?_) ?_; rotate_left; (go_simp <;> with_reducible rfl); simp only [nP]
                refine pX (v := ?_) rfl ?_ ?_; rotate_left; (go_simp <;> with_reducible rfl); simp only [nP]
                iterate 3 (refine pR (v := ?_) rfl (fun W => ?_) ?_; rotate_left; (go_simp <;> with_reducible rfl); simp only [nP])
                refine pM _ rfl rfl ?_; simp only [nP, nE]
                refine pR (v := ?_) rfl (fun W => ?_) ?_; rotate_left; (go_simp <;> with_reducible rfl); simp only [nP]
                refine pX (v := ?_) rfl ?_ ?_; rotate_left; (go_simp <;> with_reducible rfl); simp only [nP]
                iterate 3 (refine pR (v := ?_) rfl (fun W => ?_) ?_; rotate_left; (go_simp <;> with_reducible rfl); simp only [nP])
                refine pM _ rfl rfl ?_; simp only [nP, nE]
                refine pR (v := ?_) rfl (fun W => ?_) ?_; rotate_left; (go_simp <;> with_reducible rfl); simp only [nP]
                refine pX (v := ?_) rfl ?_ ?_; rotate_left; (go_simp <;> with_reducible rfl); simp only [nP]
                iterate 2 (refine pR (v := ?_) rfl (fun W => ?_) ?_; rotate_left; (go_simp <;> with_reducible rfl); simp only [nP])
                refine pA _ rfl rfl ?_; simp only [nP, nE]
                refine plan_nil ?_; simp only [tailL, List.filterMap_nil]
                go_wp2_with fail
                go_ret2
                rw [HQ.out]
                first | exact ⟨rfl, Keeps.refl _ _⟩ | exact ⟨rfl, Ext.drew0 _⟩
            · skip
              have hd : decodeN l.length a b c d = (65533, 1) := by
                unfold decodeN
                rw [if_neg (by omega), if_neg (by omega), if_neg (by omega), if_pos ⟨by omega, ⟨by omega, hB⟩, ⟨by omega, hC⟩, by omega, hD⟩, if_neg (by omega)]
              have hq : sgn l = (0, 0) := by
                rw [HS.out, hd, if_pos rfl]
              clear hd
              have HQ := Lib.hid hq
              clear hq
              have g1 : ¬ (a : Int) < 128 := by omega
              have g2 : (192 : Int) ≤ (a : Int) := by omega
              have g3 : ¬ (a : Int) < 224 := by omega
              have g4 : (224 : Int) ≤ (a : Int) := by omega
              have g5 : ¬ (a : Int) < 240 := by omega
              have g6 : (240 : Int) ≤ (a : Int) := by omega
              have g7 : (a : Int) < 248 := by omega
              have gl : (4 : Int) ≤ (l.length : Int) := by omega
              have gn : ¬ (65536 : Int) ≤ (((((a : Int) - 240) * 64 + (b : Int) - 128) * 64 + (c : Int) - 128) * 64 + (d : Int) - 128) := by omega
              have hi0 := HI0.out (by omega)
              have hi1 := HI1.out (by omega)
              have hi2 := HI2.out (by omega)
              have hi3 := HI3.out (by omega)
              clear hnp hnb1 hnc1 hnd1 hnq hnr hns hnt hnu hnx hny hnz hnn h0
              have kb : (128 : Int) ≤ (b : Int) ∧ (b : Int) < 192 := by omega
              have kb1 := kb.1
              have kb2 := kb.2
              clear kb
              have kc : (128 : Int) ≤ (c : Int) ∧ (c : Int) < 192 := by omega
              have kc1 := kc.1
              have kc2 := kc.2
              clear kc
              have kd : (128 : Int) ≤ (d : Int) ∧ (d : Int) < 192 := by omega
              have kd1 := kd.1
              have kd2 := kd.2
              clear kd
              have ka : (a : Int) < 256 := by omega
              try clear hA
              try clear hA2
              try clear hA3
              try clear hA4
              try clear hA5
              try clear hA'
              try clear hL
              try clear hB
              try clear hC
              try clear hD
              try clear hN
              try clear hM
              try clear hO
              clear hba hbb hbc hbd
              go_enter Tryz.func124, Tryz.ntmps124
              go_wp2_with fail
              refine (more_nat _ _ HBb.out).mono ?_
              rintro e w1 ⟨rfl, hw⟩
              rw [hw, show decide (b / 64 = 2) = true from decide_eq_true HB.out]
              clear hw w1
              go_wp2_with fail
              refine (more_nat _ _ HBc.out).mono ?_
              rintro e w1 ⟨rfl, hw⟩
              rw [hw, show decide (c / 64 = 2) = true from decide_eq_true HC.out]
              clear hw w1
              go_wp2_with fail
              refine (more_nat _ _ HBd.out).mono ?_
              rintro e w1 ⟨rfl, hw⟩
              rw [hw, show decide (d / 64 = 2) = true from decide_eq_true HD.out]
              clear hw w1
              go_wp2_with fail
              have hE0 : Keeps NoB w w.drew := (Keeps.refl _ _).drew
              refine wp_region_plan [(0, 0), (0, 1), (0, 2), (0, 3), (0, 4), (3, 5), (0, 6), (0, 7), (0, 8), (0, 9), (0, 10), (3, 11), (0, 12), (0, 13), (0, 14), (0, 15), (0, 16), (3, 17), (0, 18), (0, 19), (0, 20)] [] [] [] (ClsE w) (by kernel_rfl) (by kernel_rfl) (by kernel_rfl) rfl rfl (ClsE.of hE0) (fun _ _ _ d _ h => by cases d <;> exact h) ?_; simp only [planL, nL]
              refine pM _ rfl rfl ?_; simp only [nP, nE]
              iterate 2 (refine pR (v := ?_) rfl (fun W => ?_) ?_; rotate_left; (go_simp <;> with_reducible rfl); simp only [nP])
              refine pM _ rfl rfl ?_; simp only [nP, nE]
              refine pR (v := ?_) rfl (fun W => ?_) ?_; rotate_left; (go_simp <;> with_reducible rfl); simp only [nP]
              refine pX (v := ?_) rfl ?_ ?_; rotate_left; (go_simp <;> with_reducible rfl); simp only [nP]
              iterate 3 (refine pR (v := ?_) rfl (fun W => ?_) ?_; rotate_left; (go_simp <;> with_reducible rfl); simp only [nP])
              refine pM _ rfl rfl ?_; simp only [nP, nE]
              refine pR (v := ?_) rfl (fun W => ?_) ?_; rotate_left; (go_simp <;> with_reducible rfl); simp only [nP]
              refine pX (v := ?_) rfl ?_ ?_; rotate_left; (go_simp <;> with_reducible rfl); simp only [nP]
              iterate 3 (refine pR (v := ?_) rfl (fun W => ?_) ?_; rotate_left; (go_simp <;> with_reducible rfl); simp only [nP])
              refine pM _ rfl rfl ?_; simp only [nP, nE]
              refine pR (v := ?_) rfl (fun W => ?_) ?_; rotate_left; (go_simp <;> with_reducible rfl); simp only [nP]
              refine pX (v := ?_) rfl ?_ ?_; rotate_left; (go_simp <;> with_reducible rfl); simp only [nP]
              iterate 2 (refine pR (v := ?_) rfl (fun W => ?_) ?_; rotate_left; (go_simp <;> with_reducible rfl); simp only [nP])
              refine pA _ rfl rfl ?_; simp only [nP, nE]
              refine plan_nil ?_; simp only [tailL, List.filterMap_nil]
              go_wp2_with fail
              go_ret2
              rw [HQ.out]
              first | exact ⟨rfl, Keeps.refl _ _⟩ | exact ⟨rfl, Ext.drew0 _⟩
          · have HD := Lib.hid hD
            have hd : decodeN l.length a b c d = (65533, 1) := by
              unfold decodeN
              rw [if_neg (by omega), if_neg (by omega), if_neg (by omega), if_neg (by omega)]
            have hq : sgn l = (0, 0) := by
              rw [HS.out, hd, if_pos rfl]
            clear hd
            have HQ := Lib.hid hq
            clear hq
            have g1 : ¬ (a : Int) < 128 := by omega
            have g2 : (192 : Int) ≤ (a : Int) := by omega
            have g3 : ¬ (a : Int) < 224 := by omega
            have g4 : (224 : Int) ≤ (a : Int) := by omega
            have g5 : ¬ (a : Int) < 240 := by omega
            have g6 : (240 : Int) ≤ (a : Int) := by omega
            have g7 : (a : Int) < 248 := by omega
            have gl : (4 : Int) ≤ (l.length : Int) := by omega
            have hi0 := HI0.out (by omega)
            have hi1 := HI1.out (by omega)
            have hi2 := HI2.out (by omega)
            have hi3 := HI3.out (by omega)
            clear h0
            have kb : (128 : Int) ≤ (b : Int) ∧ (b : Int) < 192 := by omega
            have kb1 := kb.1
            have kb2 := kb.2
            clear kb
            have kc : (128 : Int) ≤ (c : Int) ∧ (c : Int) < 192 := by omega
            have kc1 := kc.1
            have kc2 := kc.2
            clear kc
            have ka : (a : Int) < 256 := by omega
            try clear hA
            try clear hA2
            try clear hA3
            try clear hA4
            try clear hA5
            try clear hA'
            try clear hL
            try clear hB
            try clear hC
            try clear hD
            try clear hN
            try clear hM
            try clear hO
            clear hba hbb hbc hbd
            go_enter Tryz.func124, Tryz.ntmps124
            go_wp2_with fail
            refine (more_nat _ _ HBb.out).mono ?_
            rintro e w1 ⟨rfl, hw⟩
            rw [hw, show decide (b / 64 = 2) = true from decide_eq_true HB.out]
            clear hw w1
            go_wp2_with fail
            refine (more_nat _ _ HBc.out).mono ?_
            rintro e w1 ⟨rfl, hw⟩
            rw [hw, show decide (c / 64 = 2) = true from decide_eq_true HC.out]
            clear hw w1
            go_wp2_with fail
            refine (more_nat _ _ HBd.out).mono ?_
            rintro e w1 ⟨rfl, hw⟩
            rw [hw, show decide (d / 64 = 2) = false from decide_eq_false HD.out]
            clear hw w1
            go_wp2_with fail
            go_ret2
            rw [HQ.out]
            first | exact ⟨rfl, Keeps.refl _ _⟩ | exact ⟨rfl, Ext.drew0 _⟩
        · have HC := Lib.hid hC
          have hd : decodeN l.length a b c d = (65533, 1) := by
            unfold decodeN
            rw [if_neg (by omega), if_neg (by omega), if_neg (by omega), if_neg (by omega)]
          have hq : sgn l = (0, 0) := by
            rw [HS.out, hd, if_pos rfl]
          clear hd
          have HQ := Lib.hid hq
          clear hq
          have g1 : ¬ (a : Int) < 128 := by omega
          have g2 : (192 : Int) ≤ (a : Int) := by omega
          have g3 : ¬ (a : Int) < 224 := by omega
          have g4 : (224 : Int) ≤ (a : Int) := by omega
          have g5 : ¬ (a : Int) < 240 := by omega
          have g6 : (240 : Int) ≤ (a : Int) := by omega
          have g7 : (a : Int) < 248 := by omega
          have gl : (4 : Int) ≤ (l.length : Int) := by omega
          have hi0 := HI0.out (by omega)
          have hi1 := HI1.out (by omega)
          have hi2 := HI2.out (by omega)
          clear h0
          have kb : (128 : Int) ≤ (b : Int) ∧ (b : Int) < 192 := by omega
          have kb1 := kb.1
          have kb2 := kb.2
          clear kb
          have ka : (a : Int) < 256 := by omega
          try clear hA
          try clear hA2
          try clear hA3
          try clear hA4
          try clear hA5
          try clear hA'
          try clear hL
          try clear hB
          try clear hC
          try clear hD
          try clear hN
          try clear hM
          try clear hO
          clear hba hbb hbc hbd
          go_enter Tryz.func124, Tryz.ntmps124
          go_wp2_with fail
          refine (more_nat _ _ HBb.out).mono ?_
          rintro e w1 ⟨rfl, hw⟩
          rw [hw, show decide (b / 64 = 2) = true from decide_eq_true HB.out]
          clear hw w1
          go_wp2_with fail
          refine (more_nat _ _ HBc.out).mono ?_
          rintro e w1 ⟨rfl, hw⟩
          rw [hw, show decide (c / 64 = 2) = false from decide_eq_false HC.out]
          clear hw w1
          go_wp2_with fail
          go_ret2
          rw [HQ.out]
          first | exact ⟨rfl, Keeps.refl _ _⟩ | exact ⟨rfl, Ext.drew0 _⟩
      · have HB := Lib.hid hB
        have hd : decodeN l.length a b c d = (65533, 1) := by
          unfold decodeN
          rw [if_neg (by omega), if_neg (by omega), if_neg (by omega), if_neg (by omega)]
        have hq : sgn l = (0, 0) := by
          rw [HS.out, hd, if_pos rfl]
        clear hd
        have HQ := Lib.hid hq
        clear hq
        have g1 : ¬ (a : Int) < 128 := by omega
        have g2 : (192 : Int) ≤ (a : Int) := by omega
        have g3 : ¬ (a : Int) < 224 := by omega
        have g4 : (224 : Int) ≤ (a : Int) := by omega
        have g5 : ¬ (a : Int) < 240 := by omega
        have g6 : (240 : Int) ≤ (a : Int) := by omega
        have g7 : (a : Int) < 248 := by omega
        have gl : (4 : Int) ≤ (l.length : Int) := by omega
        have hi0 := HI0.out (by omega)
        have hi1 := HI1.out (by omega)
        clear h0
        have ka : (a : Int) < 256 := by omega
        try clear hA
        try clear hA2
        try clear hA3
        try clear hA4
        try clear hA5
        try clear hA'
        try clear hL
        try clear hB
        try clear hC
        try clear hD
        try clear hN
        try clear hM
        try clear hO
        clear hba hbb hbc hbd
        go_enter Tryz.func124, Tryz.ntmps124
        go_wp2_with fail
        refine (more_nat _ _ HBb.out).mono ?_
        rintro e w1 ⟨rfl, hw⟩
        rw [hw, show decide (b / 64 = 2) = false from decide_eq_false HB.out]
        clear hw w1
        go_wp2_with fail
        go_ret2
        rw [HQ.out]
        first | exact ⟨rfl, Keeps.refl _ _⟩ | exact ⟨rfl, Ext.drew0 _⟩
    · skip
      have hd : decodeN l.length a b c d = (65533, 1) := by
        unfold decodeN
        rw [if_neg (by omega), if_neg (by omega), if_neg (by omega), if_neg (by omega)]
      have hq : sgn l = (0, 0) := by
        rw [HS.out, hd, if_pos rfl]
      clear hd
      have HQ := Lib.hid hq
      clear hq
      have g1 : ¬ (a : Int) < 128 := by omega
      have g2 : (192 : Int) ≤ (a : Int) := by omega
      have g3 : ¬ (a : Int) < 224 := by omega
      have g4 : (224 : Int) ≤ (a : Int) := by omega
      have g5 : ¬ (a : Int) < 240 := by omega
      have g6 : (240 : Int) ≤ (a : Int) := by omega
      have g7 : (a : Int) < 248 := by omega
      have gl : ¬ (4 : Int) ≤ (l.length : Int) := by omega
      have hi0 := HI0.out (by omega)
      clear h0
      have ka : (a : Int) < 256 := by omega
      try clear hA
      try clear hA2
      try clear hA3
      try clear hA4
      try clear hA5
      try clear hA'
      try clear hL
      try clear hB
      try clear hC
      try clear hD
      try clear hN
      try clear hM
      try clear hO
      clear hba hbb hbc hbd
      go_enter Tryz.func124, Tryz.ntmps124
      go_wp2_with fail
      go_ret2
      rw [HQ.out]
      first | exact ⟨rfl, Keeps.refl _ _⟩ | exact ⟨rfl, Ext.drew0 _⟩
  have hd : decodeN l.length a b c d = (65533, 1) := by
    unfold decodeN
    rw [if_neg (by omega), if_neg (by omega), if_neg (by omega), if_neg (by omega)]
  have hq : sgn l = (0, 0) := by
    rw [HS.out, hd, if_pos rfl]
  clear hd
  have HQ := Lib.hid hq
  clear hq
  have g1 : ¬ (a : Int) < 128 := by omega
  have g2 : (192 : Int) ≤ (a : Int) := by omega
  have g3 : ¬ (a : Int) < 224 := by omega
  have g4 : (224 : Int) ≤ (a : Int) := by omega
  have g5 : ¬ (a : Int) < 240 := by omega
  have g6 : (240 : Int) ≤ (a : Int) := by omega
  have g7 : ¬ (a : Int) < 248 := by omega
  have hi0 := HI0.out (by omega)
  clear h0
  have ka : (a : Int) < 256 := by omega
  try clear hA
  try clear hA2
  try clear hA3
  try clear hA4
  try clear hA5
  try clear hA'
  try clear hL
  try clear hB
  try clear hC
  try clear hD
  try clear hN
  try clear hM
  try clear hO
  clear hba hbb hbc hbd
  go_enter Tryz.func124, Tryz.ntmps124
  go_wp2_with fail
  go_ret2
  rw [HQ.out]
  first | exact ⟨rfl, Keeps.refl _ _⟩ | exact ⟨rfl, Ext.drew0 _⟩
theorem sign_any (w : World) (l : List UInt8) (hl : l ≠ []) :
    Calls Tryz.prog 124 #[.string (bs l)] w fun e w' => e = .returned (.tuple #[.int .i64 ((sgn l).1 : Int), .int .i64 ((sgn l).2 : Int)]) ∧ Ext w w' :=
  sign_core w l _ _ _ _ (Lib.hid (UInt8.toNat_lt _)) (Lib.hid (UInt8.toNat_lt _)) (Lib.hid (UInt8.toNat_lt _)) (Lib.hid (UInt8.toNat_lt _)) (List.length_pos_iff.2 hl) (Lib.hid (sgn_N l))
    (Lib.hid fun h => index_bs l 0 h) (Lib.hid fun h => index_bs l 1 h) (Lib.hid fun h => index_bs l 2 h) (Lib.hid fun h => index_bs l 3 h)
end Go.Proofs.YtcfgnbbiljohjaaGreatDoor
end
section
/- The document's signs of a text, and its check. No condition. -/
set_option linter.unusedVariables false
set_option linter.unusedSimpArgs false
set_option maxHeartbeats 2000000
set_option maxRecDepth 10000
namespace Go.Proofs.YtcfgnbbiljohjaaGreatDoor
open Go.RowKit Go.Shelf

def sgE : Enc Sg where
  cells x := [.int .i64 (x.at' : Int), .int .i64 (x.size : Int), .int .i64 (x.n : Int), .bool x.broken]
  sz := 4
  len _ := rfl
  one x u hu := by
    simp only [List.mem_cons, List.not_mem_nil, or_false] at hu
    rcases hu with rfl | rfl | rfl | rfl <;> rfl
theorem infoSign : (Tryz.prog.info? 123).map (fun i => (i.zero, i.size, i.bytes)) = some (some (.agg #[.int .i64 0, .int .i64 0, .int .i64 0, .bool false]), 4, 32) := by kernel_rfl
theorem add_sign {F : Nat → Prop} {w0 w : World} {L : List Res} {v : Value} {l : List Sg} (ty : TypeId) (h : Mem F w0 w (rowR sgE v l :: L)) (b c : Nat) (x : Sg) (hb : ∀ o, w.cell? ⟨b, o, none⟩ = (sgE.cells x)[o]?) (hl : l.length < 1000000) :
    ∃ v' w', (Builtin.append_ #[120, 120] ty #[v, .slice (some ⟨b, 0, none⟩) 1 c]).run Tryz.prog w = .ok v' w' ∧ Mem F w0 w' (rowR sgE v' (l ++ [x]) :: L) := by
  obtain ⟨i0, hi, hz0, hz1, hz2⟩ := info_parts infoSign
  exact Mem.rowAdd 120 120 ty 123 i0 _ 32 Tryz.underlying120 Tryz.underlying120 hi hz0 hz1 hz2 rfl h b c x hb (by simp [maxLen]; omega) (by omega)
theorem slice_bs (l : List UInt8) (p : Nat) (h : p ≤ l.length) (W : World) : (Instr.slice 9 (.string (bs l)) (some (.int .i64 (p : Int))) none none).run Tryz.prog W = .ok (.string (bs (l.drop p))) W := by
  rw [run_slice_string_l W _ _ Tryz.underlying9 _ _ (by omega) (by rw [bs_size]; omega), show ((p : Int)).toNat = p from rfl, Lib.extract_from, bs_data]
  rfl
theorem signsF_succ (l : List UInt8) (f p : Nat) (h : p < l.length) : signsF l (f + 1) p = if (sgn (l.drop p)).2 = 0 then ⟨p, 1, 65533, true⟩ :: signsF l f (p + 1) else ⟨p, (sgn (l.drop p)).2, (sgn (l.drop p)).1, false⟩ :: signsF l f (p + (sgn (l.drop p)).2) := by
  rw [signsF, if_pos h]
theorem sgn_le (l : List UInt8) (h : l ≠ []) : (sgn l).2 ≤ l.length := by
  have h1 : 0 < l.length := List.length_pos_iff.2 h
  rw [sgn_N]
  split
  · exact Nat.zero_le _
  · unfold Lib.decodeN
    repeat' split
    all_goals (dsimp only; omega)
theorem Mem.drop' {F : Nat → Prop} {w0 w : World} {x r : Res} {L : List Res} (h : Mem F w0 w (x :: r :: L)) : Mem F w0 w (x :: L) := (h.pick (.there .here)).drop
theorem signs_any (w : World) (l : List UInt8) (hl : l.length ≤ 500000) :
    Calls Tryz.prog 68 #[.string (bs l)] w fun r w' => ∃ v, r = .returned v ∧ Upd NoB w w' (rowR sgE v (signsL l)) := by
  have HM := Lib.hid (Mem.start0 w)
  have hsz := bs_size l
  go_enter Tryz.func68, Tryz.ntmps68
  have fM := HM.out.fa
  go_wp2_with fail
  all_goals clear fM
  go_loopw [3, 4] (fun o i wr => ∃ (p f : Nat) (q : List Sg), i = .int .i64 (p : Int) ∧ Hid (signsL l = q ++ signsF l f p ∧ l.length ≤ p + f ∧ p ≤ l.length ∧ q.length ≤ p) ∧ Hid (Mem NoB w wr [rowR sgE o q])) (fun _ i _ => l.length - (intOf i).toNat)
  case atStart => exact ⟨0, l.length, [], rfl, Lib.hid ⟨rfl, by omega, by omega, by simp⟩, Lib.hid HM.out.nilRow⟩
  case round =>
    obtain ⟨p, f, q, rfl, HP, HM⟩ := hrel
    have hp := HP.out.2.2.1
    by_cases hlt : p < l.length
    · have hlt' : (p : Int) < (l.length : Int) := by omega
      have hsl := slice_bs l p hp
      clear hp
      obtain ⟨f, rfl⟩ : ∃ g, f = g + 1 := ⟨f - 1, by have := HP.out; omega⟩
      have fM := HM.out.fa
      go_wp2_with fail
      all_goals clear fM
      refine (sign_any wr (l.drop p) (by intro h; have := congrArg List.length h; simp at this; omega)).mono ?_
      rintro r w1 ⟨rfl, hE⟩
      replace HM := Lib.hid (HM.out.ext hE)
      clear hE hsl
      have hst := signsF_succ l f p hlt
      by_cases hz : (sgn (l.drop p)).2 = 0
      · rw [if_pos hz] at hst
        rw [hz]
        have HST := Lib.hid hst
        clear hst hz
        have g1 : wrap64 ((p : Int) + 1) = ((p + 1 : Nat) : Int) := by rw [w64 (y := ((p + 1 : Nat) : Int)) (by omega) (by omega) (by omega)]
        have fM := HM.out.fa
        go_wp2_with (at_builtin; refine standing ?_)
        all_goals clear fM
        refine nxt HM fun w2 M => ?_
        clear HM; have HM := M; clear M
        obtain ⟨Ahb, hb⟩ := HM.out.get (r := cellsR w1.heap.size 123 [.int .i64 (p : Int), .int .i64 1, .int .i64 65533, .bool true]) (by with_reducible repeat first | exact ph | apply pt)
        have hbr := hb.2.reads.1
        have hql : q.length < 1000000 := by have := HP.out; omega
        obtain ⟨v3, w3, hr, hm⟩ := add_sign 120 (HM.out.pick (r := rowR sgE u3 q) (by with_reducible repeat first | exact ph | apply pt)) w1.heap.size 1 (⟨p, 1, 65533, true⟩ : Sg) hbr hql
        replace HM := Lib.hid hm.drop'
        clear hm hb hbr hql Ahb
        refine ⟨?_⟩
        refine wpList_append_ran rfl _ _ hr rfl rfl rfl ?_
        clear hr

        have fM := HM.out.fa
        go_wp2_with fail
        all_goals clear fM
        go_roundw
        case rel =>
          refine ⟨p + 1, f, q ++ [(⟨p, 1, 65533, true⟩ : Sg)], by go_num, Lib.hid ⟨?_, by have := HP.out; omega, by have := HP.out; omega, by have := HP.out; simp; omega⟩, HM⟩
          rw [HP.out.1, HST.out, List.append_assoc]
          rfl
        case measure => simp [intOf]; omega
      · rw [if_neg hz] at hst
        obtain ⟨n, k, hnk⟩ : ∃ n k, sgn (l.drop p) = (n, k) := ⟨_, _, rfl⟩
        have hle := sgn_le (l.drop p) (by intro h; have := congrArg List.length h; simp at this; omega)
        rw [List.length_drop] at hle
        rw [hnk] at hst hz hle ⊢
        dsimp only at hst hz hle ⊢
        have HST := Lib.hid hst
        have HK := Lib.hid (show 0 < k ∧ p + k ≤ l.length from ⟨by omega, by omega⟩)
        have hz' : ((k : Int) == 0) = false := by simp; omega
        clear hst hnk hz hle
        have g1 : wrap64 ((p : Int) + (k : Int)) = ((p + k : Nat) : Int) := by have := HK.out; have := HP.out; rw [w64 (y := ((p + k : Nat) : Int)) (by omega) (by omega) (by omega)]
        have fM := HM.out.fa
        go_wp2_with (at_builtin; refine standing ?_)
        all_goals clear fM
        refine nxt HM fun w2 M => ?_
        clear HM; have HM := M; clear M
        obtain ⟨Ahb, hb⟩ := HM.out.get (r := cellsR w1.heap.size 123 [.int .i64 (p : Int), .int .i64 (k : Int), .int .i64 (n : Int), .bool false]) (by with_reducible repeat first | exact ph | apply pt)
        have hbr := hb.2.reads.1
        have hql : q.length < 1000000 := by have := HP.out; omega
        obtain ⟨v3, w3, hr, hm⟩ := add_sign 120 (HM.out.pick (r := rowR sgE u3 q) (by with_reducible repeat first | exact ph | apply pt)) w1.heap.size 1 (⟨p, k, n, false⟩ : Sg) hbr hql
        replace HM := Lib.hid hm.drop'
        clear hm hb hbr hql Ahb
        refine ⟨?_⟩
        refine wpList_append_ran rfl _ _ hr rfl rfl rfl ?_
        clear hr
        have := HK.out
        have fM := HM.out.fa
        go_wp2_with fail
        all_goals clear fM
        go_roundw
        case rel =>
          refine ⟨p + k, f, q ++ [(⟨p, k, n, false⟩ : Sg)], by go_num, Lib.hid ⟨?_, by have := HP.out; omega, by have := HP.out; omega, by have := HP.out; simp; omega⟩, HM⟩
          rw [HP.out.1, HST.out, List.append_assoc]
          rfl
        case measure => simp [intOf]; omega
    · have hend := signsF_end l f p hlt
      have hq : signsL l = q := by rw [HP.out.1, hend, List.append_nil]
      have HQ := Lib.hid hq
      have hlt' : ¬ (p : Int) < (l.length : Int) := by omega
      clear hend hq hp
      have fM := HM.out.fa
      go_wp2_with fail
      all_goals clear fM
      go_ret
      refine ⟨_, rfl, ?_⟩
      rw [HQ.out]
      exact HM.out.upd
end Go.Proofs.YtcfgnbbiljohjaaGreatDoor
end
section
/- The document's check of a text tells what 'chk' tells. Condition: the text has at most 500000 bytes. -/
set_option linter.unusedVariables false
set_option linter.unusedSimpArgs false
set_option maxHeartbeats 2000000
set_option maxRecDepth 10000
namespace Go.Proofs.YtcfgnbbiljohjaaGreatDoor
open Go.RowKit Go.Shelf

theorem chk_3 {l : List UInt8} (h : 200 < l.length) : chk l = 3 := by unfold chk; rw [if_pos h]
theorem chk_130 {l : List UInt8} (h : ¬ 200 < l.length) (k : Nat) (hk : k < (signsL l).length) (hb : (signsL l)[k].broken = true) : chk l = 130 := by
  unfold chk
  rw [if_neg h, if_pos (List.any_eq_true.2 ⟨_, List.getElem_mem hk, hb⟩)]
theorem any_none {α : Type} (l : List α) (p : α → Bool) (h : ∀ j (hj : j < l.length), p l[j] = false) : l.any p = false := by
  rw [List.any_eq_false]
  intro x hx
  obtain ⟨j, hj, rfl⟩ := List.getElem_of_mem hx
  rw [h j hj]; exact Bool.noConfusion
theorem chk_131 {l : List UInt8} (h : ¬ 200 < l.length) (h1 : ∀ j (hj : j < (signsL l).length), (signsL l)[j].broken = false) (k : Nat) (hk : k < (signsL l).length) (hb : (signsL l)[k].bad = true) : chk l = 131 := by
  unfold chk
  rw [if_neg h, any_none (signsL l) (fun x : Sg => x.broken) h1, if_neg Bool.noConfusion, if_pos (List.any_eq_true.2 ⟨_, List.getElem_mem hk, hb⟩)]
theorem chk_rest {l : List UInt8} (h : ¬ 200 < l.length) (h1 : ∀ j (hj : j < (signsL l).length), (signsL l)[j].broken = false) (h2 : ∀ j (hj : j < (signsL l).length), (signsL l)[j].bad = false) : chk l = if blankB l = true then 132 else 0 := by
  unfold chk
  rw [if_neg h, any_none (signsL l) (fun x : Sg => x.broken) h1, if_neg Bool.noConfusion, any_none (signsL l) (fun x : Sg => x.bad) h2, if_neg Bool.noConfusion]
theorem signsF_len (l : List UInt8) : ∀ f p, (signsF l f p).length ≤ f
  | 0, p => by simp [signsF]
  | f + 1, p => by
    rw [signsF]
    split
    · split
      · have := signsF_len l f (p + 1); simp; omega
      · have := signsF_len l f (p + (sgn (l.drop p)).2); simp; omega
    · simp
theorem sg_at {A : Nat → Prop} {w : World} {a : Option Addr} {c : Nat} {q : List Sg} (h : (rowR sgE (.slice a q.length c) q).p A w) (k : Nat) (hk : k < q.length) :
    ∃ g o, a = some ⟨g, o, none⟩ ∧ q.length ≤ c ∧ w.cell? ⟨g, o + k * 4 + 2, none⟩ = some (.int .i64 (q[k].n : Int)) ∧ w.cell? ⟨g, o + k * 4 + 3, none⟩ = some (.bool q[k].broken) := by
  obtain ⟨g, o, cap, hv, h1, h2, h3⟩ := row_cells h (by omega)
  cases hv
  exact ⟨g, o, rfl, h1, h3 k hk 2 (by decide), h3 k hk 3 (by decide)⟩
theorem check03_any (w : World) (l : List UInt8) (hl : l.length ≤ 500000) :
    Calls Tryz.prog 33 #[.string (bs l)] w fun r w' => r = .returned (.int .i64 (chk l : Int)) ∧ Ext w w' := by
  have hsz := bs_size l
  by_cases h0 : 200 < l.length
  · have g0 : (200 : Int) < (l.length : Int) := by omega
    have HQ := Lib.hid (chk_3 h0)
    clear h0 hl
    go_enter Tryz.func33, Tryz.ntmps33
    go_wp2_with fail
    go_ret
    exact ⟨by rw [HQ.out]; rfl, Keeps.refl _ _⟩
  have g0 : ¬ (200 : Int) < (l.length : Int) := by omega
  have H0 := Lib.hid h0
  have HL := Lib.hid hl
  clear h0 hl
  go_enter Tryz.func33, Tryz.ntmps33
  go_wp2_with fail
  refine (signs_any w l HL.out).mono ?_
  rintro r w1 ⟨v, rfl, A, hA, hE, -⟩
  have HE := Lib.hid (show Ext w w1 from hE)
  obtain ⟨q, hq⟩ : ∃ q, signsL l = q := ⟨_, rfl⟩
  rw [hq] at hA
  have hql : q.length ≤ 500000 := by have := signsF_len l l.length 0; have := HL.out; rw [← hq]; unfold signsL; omega
  obtain ⟨a, c, rfl⟩ := row_len hA
  have HA := Lib.hid hA
  have HQQ := Lib.hid hq
  clear hA hE hq
  go_wp2_with fail
  go_loop [4] (fun i => ∃ k : Nat, k ≤ q.length ∧ i = .int .i64 k ∧ Hid (∀ j (hj : j < q.length), j < k → q[j].broken = false)) (fun i => q.length - (intOf i).toNat)
  case atStart => exact ⟨0, Nat.zero_le _, rfl, Lib.hid fun j _ h => absurd h (by omega)⟩
  case round =>
    obtain ⟨k, hk, rfl, HB⟩ := hrel
    by_cases hlt : k < q.length
    · obtain ⟨g, o, rfl, hc, -, d3⟩ := sg_at HA.out k hlt
      have g1 : (k : Int) < (q.length : Int) := by omega
      have g2 : ¬ (k : Int) < 0 := by omega
      clear hc
      cases hb : q[k].broken
      · rw [hb] at d3
        have HBK := Lib.hid hb
        clear hb
        go_wp2_with fail
        go_round
        case rel => exact ⟨k + 1, by omega, by go_num, Lib.hid fun j hj h => by
          by_cases e : j = k
          · subst e; exact HBK.out
          · exact HB.out j hj (by omega)⟩
        case measure => simp [intOf]; omega
      · rw [hb] at d3
        have HQ : Hid (chk l = 130) := Lib.hid (by
          have e := HQQ.out
          subst e
          exact chk_130 H0.out k hlt hb)
        clear hb
        go_wp2_with fail
        go_ret
        exact ⟨by rw [HQ.out]; rfl, HE.out⟩
    · obtain rfl : k = q.length := by omega
      have HB1 : Hid (∀ j (hj : j < q.length), q[j].broken = false) := Lib.hid fun j hj => HB.out j hj hj
      clear hlt hk HB
      go_wp2_with fail
      go_loop [5] (fun i => ∃ k : Nat, k ≤ q.length ∧ i = .int .i64 k ∧ Hid (∀ j (hj : j < q.length), j < k → q[j].bad = false)) (fun i => q.length - (intOf i).toNat)
      case atStart => exact ⟨0, Nat.zero_le _, rfl, Lib.hid fun j _ h => absurd h (by omega)⟩
      case round =>
        obtain ⟨k, hk, rfl, HB⟩ := hrel
        by_cases hlt : k < q.length
        · obtain ⟨g, o, rfl, hc, d2, -⟩ := sg_at HA.out k hlt
          have g1 : (k : Int) < (q.length : Int) := by omega
          have g2 : ¬ (k : Int) < 0 := by omega
          clear hc
          obtain ⟨n, hn⟩ : ∃ n, q[k].n = n := ⟨_, rfl⟩
          rw [hn] at d2
          have HBK : Hid (q[k].bad = (decide (n < 32) || (decide (127 ≤ n) && decide (n ≤ 159)))) := Lib.hid (by unfold Sg.bad; rw [hn])
          clear hn
          by_cases hb : n < 32 ∨ (127 ≤ n ∧ n ≤ 159)
          · have HQ : Hid (chk l = 131) := Lib.hid (by
              have e := HQQ.out
              subst e
              exact chk_131 H0.out HB1.out k hlt (by rw [HBK.out]; simpa using hb))
            rcases hb with hb | ⟨hb1, hb2⟩
            · have i1 : (n : Int) < 32 := by omega
              clear hb
              go_wp2_with fail
              go_ret
              exact ⟨by rw [HQ.out]; rfl, HE.out⟩
            · have i1 : ¬ (n : Int) < 32 := by omega
              have i2 : (127 : Int) ≤ (n : Int) := by omega
              have i3 : (n : Int) ≤ 159 := by omega
              clear hb1 hb2
              go_wp2_with fail
              go_ret
              exact ⟨by rw [HQ.out]; rfl, HE.out⟩
          · have HBN : Hid (q[k].bad = false) := Lib.hid (by rw [HBK.out]; simp; omega)
            have i1 : ¬ (n : Int) < 32 := by omega
            by_cases hb1 : n < 127
            · have i2 : ¬ (127 : Int) ≤ (n : Int) := by omega
              clear hb hb1
              go_wp2_with fail
              go_round
              case rel => exact ⟨k + 1, by omega, by go_num, Lib.hid fun j hj h => by
                by_cases e : j = k
                · subst e; exact HBN.out
                · exact HB.out j hj (by omega)⟩
              case measure => simp [intOf]; omega
            · have i2 : (127 : Int) ≤ (n : Int) := by omega
              have i3 : ¬ (n : Int) ≤ 159 := by omega
              clear hb hb1
              go_wp2_with fail
              go_round
              case rel => exact ⟨k + 1, by omega, by go_num, Lib.hid fun j hj h => by
                by_cases e : j = k
                · subst e; exact HBN.out
                · exact HB.out j hj (by omega)⟩
              case measure => simp [intOf]; omega
        · obtain rfl : k = q.length := by omega
          have HC : Hid (chk l = if blankB l = true then 132 else 0) := Lib.hid (by
            have e := HQQ.out
            subst e
            exact chk_rest H0.out HB1.out fun j hj => HB.out j hj hj)
          clear hlt hk HB HB1
          by_cases hn : l.length = 0
          · obtain rfl : l = [] := List.eq_nil_of_length_eq_zero hn
            have HQ : Hid (chk [] = 132) := Lib.hid (by rw [HC.out]; rfl)
            have g3 : (((([] : List UInt8).length : Nat) : Int) == 0) = true := rfl
            clear hn
            go_wp2_with fail
            go_ret
            exact ⟨by rw [HQ.out]; rfl, HE.out⟩
          · have g3 : ((l.length : Int) == 0) = false := beq_eq_false_iff_ne.2 (by omega)
            have hi0 : ∀ W, (Instr.index 9 (.string (bs l)) (.int .i64 0)).run Tryz.prog W = .ok (.int .u8 ((l.getD 0 0).toNat : Int)) W := fun W => index_bs l 0 (by omega) W
            have hi1 := index_bs l (l.length - 1) (Nat.sub_lt (Nat.pos_of_ne_zero hn) Nat.one_pos)
            have hs1 : wrap64 ((l.length : Int) - 1) = ((l.length - 1 : Nat) : Int) := w64 (x := (l.length : Int) - 1) (y := ((l.length - 1 : Nat) : Int)) (by omega) (by omega) (by have := HL.out; omega)
            have hs2 : ((l.length : Int) - 1) = ((l.length - 1 : Nat) : Int) := by omega
            obtain ⟨x, hx⟩ : ∃ x, l.getD 0 0 = x := ⟨_, rfl⟩
            obtain ⟨y, hy⟩ : ∃ y, l.getD (l.length - 1) 0 = y := ⟨_, rfl⟩
            rw [hx] at hi0
            rw [hy] at hi1
            obtain ⟨m, hm⟩ : ∃ m, l.length - 1 = m := ⟨_, rfl⟩
            rw [hm] at hi1 hs1 hs2
            have HBL : Hid (blankB l = ((x == 32) || (y == 32))) := Lib.hid (by
              unfold blankB
              have e1 : l.isEmpty = false := by cases l; simp at hn; rfl
              have e2 : l.head? = some x := by rw [← hx, List.getD_eq_getElem?_getD, List.head?_eq_getElem?, List.getElem?_eq_getElem (by omega)]; rfl
              have e3 : l.getLast? = some y := by rw [← hy, List.getD_eq_getElem?_getD, List.getLast?_eq_getElem?, List.getElem?_eq_getElem (by omega)]; rfl
              rw [e1, e2, e3]
              rfl)
            have kx : ∀ z : UInt8, (((z.toNat : Int)) == 32) = (z == 32) := fun z => by
              rw [Bool.eq_iff_iff]
              simp only [beq_iff_eq]
              constructor
              · intro h; exact UInt8.toNat_inj.1 (by show z.toNat = 32; omega)
              · intro h; subst h; rfl
            have kx1 := kx x
            have ky1 := kx y
            have HN := Lib.hid hn
            clear hn hx hy hm kx
            cases hxe : x == 32
            · rw [hxe] at kx1 HBL
              cases hye : y == 32
              · rw [hye] at ky1 HBL
                have HQ : Hid (chk l = 0) := Lib.hid (by rw [HC.out, HBL.out]; rfl)
                clear hxe hye
                go_wp2_with fail
                go_ret
                exact ⟨by rw [HQ.out]; rfl, HE.out⟩
              · rw [hye] at ky1 HBL
                have HQ : Hid (chk l = 132) := Lib.hid (by rw [HC.out, HBL.out]; rfl)
                clear hxe hye
                go_wp2_with fail
                go_ret
                exact ⟨by rw [HQ.out]; rfl, HE.out⟩
            · rw [hxe] at kx1 HBL
              have HQ : Hid (chk l = 132) := Lib.hid (by rw [HC.out, HBL.out]; rfl)
              clear hxe
              go_wp2_with fail
              go_ret
              exact ⟨by rw [HQ.out]; rfl, HE.out⟩
end Go.Proofs.YtcfgnbbiljohjaaGreatDoor
end
