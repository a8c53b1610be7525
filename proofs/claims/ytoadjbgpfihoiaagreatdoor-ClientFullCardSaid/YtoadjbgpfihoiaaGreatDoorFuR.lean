/- Texts WR, WRB, WRC, WRD, WRE, one behind the other. Conditions: as each says. -/
import Derived.Test.YtoadjbgpfihoiaaGreatDoorFuO
set_option linter.unusedVariables false
set_option linter.unusedSimpArgs false
set_option maxHeartbeats 8000000
set_option maxRecDepth 100000
namespace Go.Proofs.YtoadjbgpfihoiaaGreatDoor
open Go.RowKit
theorem rtake_any {A : Nat → Prop} (w : World) (v : Value) (l : List UInt8) (hl : l.length ≤ 70368744177664) (h : Bytes w A v l) :
 Calls Tryz.prog 170 #[v] w fun e w' => e = .returned (.tuple #[.int .i64 ((takeL l).1 : Int), .int .i64 (takeL l).2]) ∧ w' = w := by
 obtain ⟨a, c, rfl⟩ := h.len; have HB := Hd h; clear h; go_enter Tryz.func170, Tryz.ntmps170
 go_wp2_with fail; go_loopw [4, 5, 6] (fun x u i wr => ∃ j N U : Nat, j ≤ l.length ∧ j ≤ 9 ∧ i = .int .i64 j ∧ x = .int .i64 N ∧ u = .int .i64 U ∧ Hid (U = 128 ^ (min j 8)) ∧ Hid (takeL l = takeG j N (l.drop j)) ∧ Hid (N < 128 ^ j) ∧ wr = w) (fun _ _ i _ => l.length - (intOf i).toNat)
 case atStart => exact ⟨0, 0, 1, Nat.zero_le _, Nat.zero_le _, rfl, rfl, rfl, Hd rfl, Hd rfl, Hd (by decide), rfl⟩
 case round =>
  obtain ⟨j, N, U, hj, hj9, rfl, rfl, rfl, HU, HT, HP, rfl⟩ := hrel; by_cases hlt : j < l.length
  · have g1 : (j : Int) < l.length := by omega
    have g2 : ¬ (j : Int) < 0 := by omega
    obtain ⟨g, o, rfl, -, hg, hc⟩ := HB.out.at j hlt; replace HT := Hd (show takeL l = takeG j N (l[j] :: l.drop (j + 1)) by rw [HT.out, List.drop_eq_getElem_cons hlt]); obtain ⟨x, hx⟩ : ∃ x, l[j] = x := ⟨_, rfl⟩; rw [hx] at hc HT; clear hx; by_cases h9 : j = 9
    · subst h9
      rw [takeG_nine] at HT; have hl9 : (9 : Int) ≤ l.length := by omega
      go_wp2_with fail; go_ret2
      rw [HT.out]; exact ⟨rfl, rfl⟩
    · have h9' : (j : Int) < 9 := by omega
      have h8 : j ≤ 8 := by omega
      have hxl := x.toNat_lt; have hU8 : U = 128 ^ j := by rw [HU.out, Nat.min_eq_left h8]
      have hb9 : 128 ^ j ≤ 128 ^ 8 := Nat.pow_le_pow_right (by decide) h8; obtain ⟨m, hm⟩ : ∃ m, x.toNat % 128 = m := ⟨_, rfl⟩; have hml : m < 128 := by omega
      have hm' : (x.toNat : Int) % 128 = (m : Int) := by omega
      have hmy : m * 128 ^ j ≤ 127 * 128 ^ 8 := Nat.mul_le_mul (by omega) hb9; have hyl : N + m * 128 ^ j < 9223372036854775808 := by have := HP.out; omega
      have HY := Hd (show N + m * 128 ^ j < 128 ^ (j + 1) by
       have h1 := HP.out; have h2 : m * 128 ^ j ≤ 127 * 128 ^ j := Nat.mul_le_mul_right _ (by omega); rw [Nat.pow_succ]; omega)
      rw [takeG_cons, if_neg h9, hm] at HT; have hum : (U : Int) * (m : Int) = ((m * 128 ^ j : Nat) : Int) := by rw [hU8, Int.mul_comm]; simp
      obtain ⟨z, hz⟩ : ∃ z, m * 128 ^ j = z := ⟨_, rfl⟩; rw [hz] at hum HY HT hyl; obtain ⟨y, hy⟩ : ∃ y, N + z = y := ⟨_, rfl⟩; rw [hy] at HY HT hyl; have HUM := Hd hum; clear hum hmy; have hnz : (N : Int) + (z : Int) = (y : Int) := by omega
      have HW2 := Hd (show wrap64 ((N : Int) + (z : Int)) = (y : Int) by rw [hnz]; exact IntWalk.wrap64_in _ (by omega)); have HW1 := Hd (show wrap64 ((U : Int) * (m : Int)) = (z : Int) by rw [HUM.out]; exact IntWalk.wrap64_in _ (by omega)); have HU7 := Hd hU8
      have hum8 : j < 8 → wrap64 ((U : Int) * 128) = ((U * 128 : Nat) : Int) := fun h => by
       have h1 : 128 ^ j ≤ 72057594037927936 := Nat.pow_le_pow_right (by decide) (show j ≤ 8 by omega); rw [← hU8] at h1; rw [show (U : Int) * 128 = ((U * 128 : Nat) : Int) by simp]; have h2 : 128 ^ j ≤ 562949953421312 := Nat.pow_le_pow_right (by decide) (show j ≤ 7 by omega); rw [← hU8] at h2; exact IntWalk.wrap64_in _ (by omega)
      have HU9 := Hd hum8; clear hb9 hyl hy hz HP hU8 HU hum8 hnz; by_cases hx : x.toNat < 128
      case neg =>
       have hx' : ¬ (x.toNat : Int) < 128 := by omega
       rw [if_neg hx] at HT; by_cases hj8 : j < 8
       · have hj8' : (j : Int) < 8 := by omega
         have hw3 : wrap64 ((U : Int) * 128) = ((U * 128 : Nat) : Int) := HU9.out hj8; have hw1 := HW1.out; have hw2 := HW2.out; go_wp2_with fail; clear hw1 hw2; try clear hw3
         go_roundw
         case rel => exact ⟨j + 1, y, U * 128, by omega, by omega, by go_num, by first | rfl | rw [HW2.out], by first | rfl | rw [HU9.out hj8], Hd (by rw [HU7.out, Nat.min_eq_left (by omega), Nat.pow_succ]), HT, HY, trivial⟩
         case measure => simp [intOf]; omega
       · have hj8' : ¬ (j : Int) < 8 := by omega
         have hw1 := HW1.out; have hw2 := HW2.out; go_wp2_with fail; clear hw1 hw2; try clear hw3
         go_roundw
         case rel => exact ⟨j + 1, y, U, by omega, by omega, by go_num, by first | rfl | rw [HW2.out], rfl, Hd (by rw [HU7.out, show min (j + 1) 8 = 8 by omega, show j = 8 by omega]), HT, HY, trivial⟩
         case measure => simp [intOf]; omega
      have hx' : (x.toNat : Int) < 128 := by omega
      rw [if_pos hx] at HT; have hmx : (m : Int) = (x.toNat : Int) := by omega
      clear hm; by_cases hz : 0 < j ∧ x.toNat = 0
      · have hz1 : (0 : Int) < (j : Int) := by omega
        have hz2 : (x.toNat : Int) = 0 := by omega
        rw [if_pos (.inl hz)] at HT; have hw1 := HW1.out; have hw2 := HW2.out; go_wp2_with fail; go_ret2
        rw [HT.out]; exact ⟨rfl, rfl⟩
      have HN1 := Hd hz; by_cases hj0 : 0 < j
      · have hz1 : (0 : Int) < (j : Int) := by omega
        have hz2 : ¬ (x.toNat : Int) = 0 := fun e => hz ⟨hj0, by omega⟩
        clear hz hj0 hmx; by_cases ht : topN < y
        · have ht' : (4611686018427387904 : Int) < (y : Int) := by unfold topN at ht; omega
          rw [if_pos (.inr ht)] at HT; clear ht; have hw1 := HW1.out; have hw2 := HW2.out; go_wp2_with fail; go_ret2
          rw [HT.out]; exact ⟨rfl, rfl⟩
        · have ht' : ¬ (4611686018427387904 : Int) < (y : Int) := by unfold topN at ht; omega
          rw [if_neg (fun h => h.elim HN1.out ht)] at HT; clear ht; have hw1 := HW1.out; have hw2 := HW2.out; go_wp2_with fail; go_ret2
          rw [HT.out]; exact ⟨rfl, rfl⟩
      · have hz1 : ¬ (0 : Int) < (j : Int) := by omega
        clear hz hj0 hmx; by_cases ht : topN < y
        · have ht' : (4611686018427387904 : Int) < (y : Int) := by unfold topN at ht; omega
          rw [if_pos (.inr ht)] at HT; clear ht; have hw1 := HW1.out; have hw2 := HW2.out; go_wp2_with fail; go_ret2
          rw [HT.out]; exact ⟨rfl, rfl⟩
        · have ht' : ¬ (4611686018427387904 : Int) < (y : Int) := by unfold topN at ht; omega
          rw [if_neg (fun h => h.elim HN1.out ht)] at HT; clear ht; have hw1 := HW1.out; have hw2 := HW2.out; go_wp2_with fail; go_ret2
          rw [HT.out]; exact ⟨rfl, rfl⟩
  · obtain rfl : j = l.length := by omega
    rw [List.drop_length] at HT; by_cases h9 : 9 ≤ l.length
    · have h9' : (9 : Int) ≤ (l.length : Int) := by omega
      replace HT := Hd (show takeL l = (0, -1) by rw [HT.out]; unfold takeG; rw [if_pos h9]); go_wp2_with fail; go_ret2
      rw [HT.out]; exact ⟨rfl, rfl⟩
    · have h9' : ¬ (9 : Int) ≤ (l.length : Int) := by omega
      replace HT := Hd (show takeL l = (0, 0) by rw [HT.out]; unfold takeG; rw [if_neg h9]); go_wp2_with fail; go_ret2
      rw [HT.out]; exact ⟨rfl, rfl⟩
theorem rnumL_any (w : World) (n : Nat) (hn : n < 9223372036854775808) :
 Calls Tryz.prog 197 #[.int .i64 (n : Int)] w fun e w' => ∃ v', e = .returned v' ∧ Upd NoB w w' (bytR v' (numL n)) := by
 have HM := Hd (Mem.start0 w).bytNil; have HNL := Hd hn; clear hn; go_enter Tryz.func197, Tryz.ntmps197
 go_wp2_with fail; go_loopw [3, 0] (fun x i wr => ∃ (m : Nat) (l1 : List UInt8) (a1 : Option Addr) (c1 : Nat), i = .int .i64 m ∧ x = .slice a1 l1.length c1 ∧ Hid (m < 9223372036854775808) ∧ Hid (numL n = l1 ++ numL m) ∧ Hid (Mem NoB w wr [bytR (.slice a1 l1.length c1) l1])) (fun _ i _ => (intOf i).toNat)
 case atStart => exact ⟨n, [], none, 0, rfl, rfl, HNL, Hd rfl, HM⟩
 case round =>
  clear HM; obtain ⟨m, l1, a1, c1, rfl, rfl, HML, HT, HM⟩ := hrel; have hlen := congrArg List.length HT.out; rw [List.length_append] at hlen; have hl2 := numL_len n; have HL1 := Hd (show l1.length ≤ 10 by omega); clear hlen hl2; by_cases hm : 128 ≤ m
  · have hm' : (128 : Int) ≤ (m : Int) := by omega
    have hst := numL_step HML.out; rw [if_pos hm] at hst; have hb : (128 + (m : Int) % 128) % 256 = 128 + (m : Int) % 128 := by omega
    have HWW := Hd (show wrap64 ((m : Int) / 128) = (m : Int) / 128 from IntWalk.wrap64_in _ (by have := HML.out; omega)); have HT' := Hd (show numL n = (l1 ++ [UInt8.ofNat (m % 128 + 128)]) ++ numL (m / 128) by rw [HT.out, hst, List.append_assoc]; rfl); have HMM := Hd hm; clear hst hm HT; go_wp2_with (at_builtin; refine standing ?_); refine nxt HM fun w1 M => ?_
    replace HM := M; clear M; rw [show (128 + (m : Int) % 128) = (((m % 128 + 128) : Nat) : Int) by first | rfl | omega] at HM; obtain ⟨Ahb, hb⟩ := HM.out.get (r := cellsR wr.heap.size 5 [.int .u8 (((m % 128 + 128) : Nat) : Int)]) pk; replace HM := Hd (HM.out.pick (r := bytR (.slice a1 l1.length c1) l1) pk); obtain ⟨v8, w8, hr, hm9⟩ := Mem.bytAdd 27 HM.out _ _ (one_byte hb.2 (by omega)) (by have := HL1.out; simp; omega); obtain ⟨l2, hl2⟩ : ∃ l2, l1 ++ [UInt8.ofNat (m % 128 + 128)] = l2 := ⟨_, rfl⟩; rw [hl2] at hm9; have HL2 := Hd hl2; obtain ⟨a8, c8, rfl⟩ := hm9.fact (fun A h => bytR.len h); replace HM := Hd hm9; refine ⟨?_⟩; refine wpList_append_ran rfl _ _ hr rfl rfl rfl ?_; clear hr hm9 hb Ahb hl2; replace HM := Hd (Mem.sub HM.out (L' := [bytR (.slice a8 l2.length c8) l2]) sbI); rw [HL2.out] at HT'; go_wp2_with fail; rw [HWW.out]; go_roundw
    case rel => exact ⟨m / 128, l2, a8, c8, by first | go_num | (rw [HWW.out]; go_num), rfl, Hd (by have := HML.out; omega), HT', HM⟩
    case measure =>
     try rw [HWW.out]
     simp [intOf]; omega
  · have hm' : ¬ (128 : Int) ≤ (m : Int) := by omega
    have hst := numL_step HML.out; rw [if_neg hm] at hst; have hb : (m : Int) % 256 = m := by omega
    have HMM := Hd (show m < 128 by omega); rw [hst] at HT; clear hst hm; go_wp2_with (at_builtin; refine standing ?_); refine nxt HM fun w1 M => ?_
    replace HM := M; clear M; rw [show (m : Int) = ((m : Nat) : Int) by first | rfl | omega] at HM; obtain ⟨Ahb, hb⟩ := HM.out.get (r := cellsR wr.heap.size 5 [.int .u8 ((m : Nat) : Int)]) pk; replace HM := Hd (HM.out.pick (r := bytR (.slice a1 l1.length c1) l1) pk); obtain ⟨v8, w8, hr, hm9⟩ := Mem.bytAdd 27 HM.out _ _ (one_byte hb.2 (by have := HMM.out; omega)) (by have := HL1.out; simp; omega); obtain ⟨l2, hl2⟩ : ∃ l2, l1 ++ [UInt8.ofNat m] = l2 := ⟨_, rfl⟩; rw [hl2] at hm9; have HL2 := Hd hl2; obtain ⟨a8, c8, rfl⟩ := hm9.fact (fun A h => bytR.len h); replace HM := Hd hm9; refine ⟨?_⟩; refine wpList_append_ran rfl _ _ hr rfl rfl rfl ?_; clear hr hm9 hb Ahb hl2; replace HM := Hd (Mem.sub HM.out (L' := [bytR (.slice a8 l2.length c8) l2]) sbI); go_wp2_with fail; go_ret; rw [HT.out]; have := HL2.out; exact ⟨_, rfl, by rw [show l1 ++ [UInt8.ofNat m] = l2 from this]; exact HM.out.upd⟩
theorem rtruL_any (w : World) (t : Bool) :
 Calls Tryz.prog 199 #[.bool t] w fun e w' => ∃ v', e = .returned v' ∧ Upd NoB w w' (bytR v' (truL t)) := by
 have HM := Hd (Mem.start0 w); cases t
 all_goals
  go_enter Tryz.func199, Tryz.ntmps199
  go_wp2_with fail; refine nxt HM fun w1 M => ?_
  replace HM := M; clear M; go_ret
 · exact ⟨_, rfl, (Mem.bytMade (l := truL false) HM.out (by decide)).upd⟩
 · exact ⟨_, rfl, (Mem.bytMade (l := truL true) HM.out (by decide)).upd⟩
theorem rtxtL_any (w : World) (s : List UInt8) (hs : s.length ≤ 1048576) :
 Calls Tryz.prog 200 #[.string (bs s)] w fun e w' => ∃ v', e = .returned v' ∧ Upd NoB w w' (bytR v' (txtL s)) := by
 have HM := Hd (Mem.start0 w); have hsz : (bs s).size = s.length := bs_size s; have HSL := Hd hs; go_enter Tryz.func200, Tryz.ntmps200
 go_wp2_with fail; refine (rnumL_any w s.length (by omega)).mono ?_; rintro e w2 ⟨v2, rfl, hU⟩; obtain ⟨l2, hl2⟩ : ∃ l2, numL s.length = l2 := ⟨_, rfl⟩; have HL2 := Hd (show numL s.length = l2 ∧ l2.length ≤ 10 from ⟨hl2, by rw [← hl2]; exact (numL_len _).2⟩); rw [hl2] at hU; obtain ⟨a2, c2, rfl⟩ : ∃ a2 c2, v2 = .slice a2 l2.length c2 := let ⟨_, h, _⟩ := hU; bytR.len h
 obtain ⟨F2, u1, u2, u3⟩ := hU; replace HM := Hd ((Mem.start0 w).new (r := bytR (.slice a2 l2.length c2) l2) (G := F2) u2 u1 (fun k hk => (u3 k hk).elim (fun h => (noB _ h).elim) id)); obtain ⟨v3, w3, hcv, hb3, hE3, hs3⟩ := conv_bytes w2 s; have HB3 := Hd hb3; replace HM := Hd (HM.out.ext hE3); obtain ⟨a3, c3, rfl⟩ := hb3.len; clear u1 u2 u3 F2 hl2 hb3 hE3 hs3; go_wp2_with (at_builtin; refine standing ?_); obtain ⟨v8, w8, hr, hm9⟩ := Mem.bytAdd 27 HM.out _ _ HB3.out (by have := HL2.out; have := HSL.out; omega); replace HM := Hd hm9; refine ⟨?_⟩; refine wpList_append_ran rfl _ _ hr rfl rfl rfl ?_; clear hr hm9; go_wp2_with fail; go_ret; unfold txtL; rw [HL2.out.1]; exact ⟨_, rfl, HM.out.upd⟩
theorem rframe_any {A : Nat → Prop} (w : World) (v : Value) (l : List UInt8) (h : Bytes w A v l) (hl : l.length ≤ 4096) :
 Calls Tryz.prog 145 #[v] w fun e w' => ∃ v', e = .returned v' ∧ Upd NoB w w' (bytR v' (frameL l)) := by
 have HB := Hd h; obtain ⟨a, c, rfl⟩ := h.len; have HLL := Hd hl; clear h; go_enter Tryz.func145, Tryz.ntmps145
 go_wp2_with fail; refine (rseal_any w _ l (by omega) HB.out).mono ?_; rintro e w2 ⟨v2, rfl, hU⟩; obtain ⟨hb2, hE2⟩ := hU.byt; have HB2 := Hd hb2; have HM := Hd ((Mem.start0 w).ext hE2); obtain ⟨a2, c2, rfl⟩ := hb2.len; rw [sealL_len]; rw [sealL_len] at HB2; clear hU hb2 hE2; go_wp2_with fail; rw [show ((l.length : Int) + 4) = ((l.length + 4 : Nat) : Int) from rfl]; refine (rnumL_any w2 (l.length + 4) (by omega)).mono ?_; rintro e w3 ⟨v3, rfl, hU⟩; obtain ⟨l2, hl2⟩ : ∃ l2, numL (l.length + 4) = l2 := ⟨_, rfl⟩; have HL2 := Hd (show numL (l.length + 4) = l2 ∧ l2.length ≤ 10 from ⟨hl2, by rw [← hl2]; exact (numL_len _).2⟩); rw [hl2] at hU; obtain ⟨a3, c3, rfl⟩ : ∃ a2 c2, v3 = .slice a2 l2.length c2 := let ⟨_, h, _⟩ := hU; bytR.len h
 obtain ⟨F2, u1, u2, u3⟩ := hU; replace HM := Hd (HM.out.new (r := bytR (.slice a3 l2.length c3) l2) (G := F2) u2 u1 (fun k hk => (u3 k hk).elim (fun h => (noB _ h).elim) id)); replace HB2 := Hd (HB2.out.ext u2); clear u1 u2 u3 F2 hl2; go_wp2_with (at_builtin; refine standing ?_); obtain ⟨v8, w8, hr, hm9⟩ := Mem.bytAdd 27 HM.out _ _ HB2.out (by rw [sealL_len]; have := HL2.out; omega); replace HM := Hd hm9; refine ⟨?_⟩; refine wpList_append_ran rfl _ _ hr rfl rfl rfl ?_; clear hr hm9; go_wp2_with fail; go_ret; unfold frameL; rw [HL2.out.1]; exact ⟨_, rfl, HM.out.upd⟩
theorem rsplit_any {A : Nat → Prop} (w : World) (v : Value) (l : List UInt8) (h : Bytes w A v l) (hA : ∀ k, A k → k < w.heap.size) (hl : l.length ≤ 1099511627776) :
 Calls Tryz.prog 109 #[v] w fun e w' => splitE w w' l e ∧ Ext w w' := by
 obtain ⟨a, c, rfl⟩ := h.len; have HM := Hd (Mem.start0 w); have HB := Hd h; have HA := Hd hA; have HLL := Hd hl; have hcap := h.cap; have hsp : splitL l = splitL l := rfl; conv at hsp => rhs; unfold splitL
 have HS := Hd hsp; clear h hA hsp; go_enter Tryz.func109, Tryz.ntmps109
 go_wp2_with fail; refine cret (rtake_any w _ l (by omega) HB.out) ?_; obtain ⟨hk1, hk2, hk3⟩ := takeL_k l; obtain ⟨k, hk⟩ : ∃ k, (takeL l).2 = k := ⟨_, rfl⟩; obtain ⟨m, hm⟩ : ∃ m, (takeL l).1 = m := ⟨_, rfl⟩; have hm2 := takeL_le l; rw [hk, hm] at HS ⊢; rw [hk] at hk1 hk2 hk3; rw [hm] at hm2; clear hk hm; by_cases h1 : k < 0
 · rw [if_neg (show ¬ k = 0 by omega), if_pos (.inl h1)] at HS
   go_wp2_with fail; go_ret3
   exact ⟨splitE.nil HS.out, HM.out.extTo⟩
 by_cases h0 : k = 0
 · subst h0
   rw [if_pos rfl] at HS; go_wp2_with fail; go_ret3
   exact ⟨splitE.nil HS.out, HM.out.extTo⟩
 rw [if_neg h0] at HS; have h0' : (k == 0) = false := by simpa using h0
 by_cases h2 : m < 4 ∨ 4100 < m
 · rw [if_pos (.inr h2)] at HS
   by_cases h4 : m < 4
   · have h4' : (m : Int) < 4 := by omega
     clear h2; go_wp2_with fail; go_ret3
     exact ⟨splitE.nil HS.out, HM.out.extTo⟩
   · have h4' : ¬ (m : Int) < 4 := by omega
     have h5' : (4100 : Int) < (m : Int) := by omega
     clear h2; go_wp2_with fail; go_ret3
     exact ⟨splitE.nil HS.out, HM.out.extTo⟩
 rw [if_neg (fun h => h.elim (fun h => absurd h1 (by omega)) h2)] at HS; have h4' : ¬ (m : Int) < 4 := by omega
 have h5' : ¬ (4100 : Int) < (m : Int) := by omega
 clear h2; obtain ⟨kn, rfl⟩ : ∃ kn : Nat, k = kn := ⟨k.toNat, by omega⟩; rw [Int.toNat_natCast] at HS; have hw1 : wrap64 ((l.length : Int) - (kn : Int)) = (l.length : Int) - (kn : Int) := IntWalk.wrap64_in _ (by omega); by_cases h3 : l.length < kn + m
 · rw [if_pos h3] at HS
   have h3' : (l.length : Int) - (kn : Int) < (m : Int) := by omega
   go_wp2_with fail; go_ret3
   exact ⟨splitE.nil HS.out, HM.out.extTo⟩
 rw [if_neg h3] at HS; have h3' : ¬ (l.length : Int) - (kn : Int) < (m : Int) := by omega
 obtain ⟨ed, hed⟩ : ∃ ed, kn + m = ed := ⟨_, rfl⟩; have hed' : (kn : Int) + (m : Int) = (ed : Int) := by omega
 have hw2 : wrap64 ((kn : Int) + (m : Int)) = (ed : Int) := by rw [hed']; exact IntWalk.wrap64_in _ (by omega)
 have hsl := fun W => slice_lh W a l.length c kn ed (by omega) (by omega)
 have hb1 := HB.out.part kn ed (by omega) (by omega); have e0 : (l.take ed).drop kn = (l.drop kn).take m := by rw [List.drop_take]; congr 1; omega
 rw [e0] at hb1; obtain ⟨a1, c1, e1⟩ := part_len (a := a) (i := kn) (j := ed) (c := c) (s := 1); rw [e1] at hsl hb1; rw [show ed - kn = m by omega] at hsl hb1; obtain ⟨q, hq⟩ : ∃ q, (l.drop kn).take m = q := ⟨_, rfl⟩; rw [hq] at HS hb1; have hql : q.length = m := by rw [← hq, List.length_take, List.length_drop]; omega
 rw [hed] at HS; have HB1 := Hd hb1; have HQL := Hd (show q.length ≤ 4100 by omega); clear hb1 hq e0 e1 hql hed; go_wp2_with fail; refine (ropen_any w _ q (by have := HQL.out; omega) HB1.out).mono ?_; rintro e w2 ⟨⟨r, rfl, hr⟩, hE⟩; have HE := Hd hE; unfold openE at hr; cases ho : openL q with
 | none =>
   rw [ho] at hr HS; have hr' : r = .tuple #[.slice none 0 0, .int .i64 110] := hr; subst hr'; clear hr ho; go_wp2_with fail; go_ret3
   exact ⟨splitE.nil HS.out, HE.out⟩
 | some x =>
   rw [ho] at hr HS; obtain ⟨b, rfl, hb⟩ := hr; have HX := Hd hb; clear hb ho; go_wp2_with fail; go_ret3
   refine ⟨?_, HE.out⟩; unfold splitE; rw [HS.out]; exact ⟨_, rfl, HX.out⟩
def RdV (A : Nat → Prop) (w : World) (r : Rdr) (x : Value) : Prop := ∃ a c, x = .agg #[.slice a r.b.length c, .int .i64 r.e] ∧ Bytes w A (.slice a r.b.length c) r.b
theorem RdV.ext {A : Nat → Prop} {w w' : World} {r : Rdr} {x : Value} (h : RdV A w r x) (e : Ext w w') : RdV A w' r x := let ⟨a, c, h1, h2⟩ := h; ⟨a, c, h1, h2.ext e⟩
theorem Bytes.swap {A : Nat → Prop} {w0 w w' : World} {v : Value} {l : List UInt8} (h : Bytes w A v l) (hA : ∀ k, A k → k < w0.heap.size) (e : Ext w0 w) (e' : Ext w0 w') : Bytes w' A v l :=
 SlV.mono h (fun _ h => h) fun b o c hb hc => by
  unfold ByteAt at hc ⊢; rw [e.reads.1 b o (hA b hb)] at hc; rw [e'.reads.1 b o (hA b hb)]; exact hc
theorem RdV.swap {A : Nat → Prop} {w0 w w' : World} {r : Rdr} {x : Value} (h : RdV A w r x) (hA : ∀ k, A k → k < w0.heap.size) (e : Ext w0 w) (e' : Ext w0 w') : RdV A w' r x := let ⟨a, c, h1, h2⟩ := h; ⟨a, c, h1, h2.swap hA e e'⟩
theorem RdV.bad (A : Nat → Prop) (w : World) : RdV A w Rdr.bad (.agg #[.slice none 0 0, .int .i64 120]) := ⟨none, 0, rfl, SlV.nil⟩
theorem rfail_any (w : World) (v : Value) (e : Int) (hv : ∃ a n c, v = .slice a n c) : Calls Tryz.prog 220 #[.agg #[v, .int .i64 e]] w fun r w' => r = .returned (.tuple #[.agg #[.slice none 0 0, .int .i64 120], .int .i64 120]) ∧ Ext w w' := by
 obtain ⟨a, n, c, rfl⟩ := hv; have HM := Hd (Mem.start0 w); go_enter Tryz.func220, Tryz.ntmps220
 have fM := HM.out.fa; go_wp2_with fail; all_goals clear fM
 refine nxt HM fun w1 M => ?_
 replace HM := M; clear M; obtain ⟨Ahb, hb⟩ := HM.out.get (r := cellsR (w.heap.size + 1) 246 [.slice none 0 0, .int .i64 120]) pk; have hc := hb.2.reads.1; refine bodyPost_ret (v := .tuple #[.agg #[.slice none 0 0, .int .i64 120], .int .i64 120]) (by simp [results, Tryz.results220, go_sem, hc]) rfl ⟨rfl, HM.out.extTo⟩
theorem rvnum_any {A : Nat → Prop} (w : World) (r : Rdr) (x : Value) (g : Int) (hl : r.b.length ≤ 70368744177664) (h : RdV A w r x) (hA : ∀ k, A k → k < w.heap.size) :
 Calls Tryz.prog 219 #[x, .int .i64 g] w fun e w' => (∃ y, e = .returned (.tuple #[y, .int .i64 ((r.num g).2.1 : Int), .int .i64 (r.num g).2.2]) ∧ RdV A w' (r.num g).1 y) ∧ Ext w w' := by
 by_cases hr : r.e = 0
 case neg =>
  have hq : r.num g = (r, 0, r.e) := by unfold Rdr.num; rw [if_pos hr]
  have HQ := Hd hq; obtain ⟨a, c, rfl, hb⟩ := h; have HB := Hd hb; have HA := Hd hA; have HLL := Hd hl; have HM := Hd (Mem.start0 w); obtain ⟨l, e0⟩ := r; dsimp only at HB HLL ⊢; clear hb hA hl; have hr' : (e0 == 0) = false := by simpa using hr
  clear hr hq; go_enter Tryz.func219, Tryz.ntmps219
  have fM := HM.out.fa; go_wp2_with fail; all_goals clear fM
  refine nxt HM fun w1 M => ?_
  replace HM := M; clear M; have fM := HM.out.fa; have hE0 : Keeps (OneB (w.heap.size + 1)) w1 w1.drew := (Keeps.refl _ _).drew; refine rgK (OneB (w.heap.size + 1)) [(3, 0), (0, 1), (1, 2), (2, 3), (0, 4), (0, 5)] [2] [3] [] ?_; simp only [planL, nL]; refine pX rfl (by go_simp <;> with_reducible rfl) ?_; simp only [nP]; refine pR rfl (fun W => by go_simp <;> with_reducible rfl) ?_; simp only [nP]; refine pK rfl (fun W => by go_simp <;> with_reducible rfl) ?_; simp only [nP]; refine plan_does rfl (fun K hK => ?_); go_wp2_with fail; refine ⟨ClsK.of (by repeat (first | assumption | exact Keeps.refl _ _ | refine Keeps.alloc ?_ _ | refine Keeps.setOne ?_ _ _ | refine Keeps.setCell ?_ _ _ (.inl (by first | rfl | exact .inl rfl | exact .inr rfl | omega)) | refine Keeps.drew ?_)), ?_⟩; try simp only [nP]
  refine pA _ rfl rfl ?_; simp only [nP, Act.eval]; refine pA _ rfl rfl ?_; simp only [nP, nE]; refine plan_nil ?_; simp only [tailL, List.filterMap_nil]; go_wp2_with fail; clear fM; clear hE0; refine nxt HM fun w3 M => ?_
  replace HM := M; clear M; obtain ⟨Ahb, hb⟩ := HM.out.get (r := cellsR (w.heap.size + 1) 246 [.slice a l.length c, .int .i64 e0]) pk; have hcc := hb.2.reads.1; clear hb; refine bodyPost_ret (v := .tuple #[.agg [.slice a l.length c, .int .i64 e0].toArray, .int .i64 0, .int .i64 e0]) (by simp [results, Tryz.results219, go_sem, hcc]) rfl ?_; clear hcc; rw [HQ.out]; exact ⟨⟨_, rfl, RdV.ext ⟨a, c, rfl, HB.out⟩ HM.out.extTo⟩, HM.out.extTo⟩
 have hne : ¬ r.e ≠ 0 := by simpa using hr
 by_cases hg : g < 0
 · have hq : r.num g = (r, 0, 2) := by unfold Rdr.num; rw [if_neg hne, if_pos hg]
   have HQ := Hd hq; obtain ⟨a, c, rfl, hb⟩ := h; have HB := Hd hb; have HA := Hd hA; have HLL := Hd hl; have HM := Hd (Mem.start0 w); obtain ⟨l, e0⟩ := r; dsimp only at HB HLL ⊢; clear hb hA hl; dsimp only at hr; subst hr; clear hq hne; go_enter Tryz.func219, Tryz.ntmps219
   have fM := HM.out.fa; go_wp2_with fail; all_goals clear fM
   refine nxt HM fun w3 M => ?_
   replace HM := M; clear M; obtain ⟨Ahb, hb⟩ := HM.out.get (r := cellsR (w.heap.size + 1) 246 [.slice a l.length c, .int .i64 0]) pk; have hcc := hb.2.reads.1; clear hb; refine bodyPost_ret (v := .tuple #[.agg [.slice a l.length c, .int .i64 0].toArray, .int .i64 0, .int .i64 2]) (by simp [results, Tryz.results219, go_sem, hcc]) rfl ?_; clear hcc; rw [HQ.out]; exact ⟨⟨_, rfl, RdV.ext ⟨a, c, rfl, HB.out⟩ HM.out.extTo⟩, HM.out.extTo⟩
 have hq0 : r.num g = if 0 < (takeL r.b).2 ∧ ((takeL r.b).1 : Int) ≤ g then (⟨r.b.drop (takeL r.b).2.toNat, 0⟩, (takeL r.b).1, 0) else (Rdr.bad, 0, 120) := by unfold Rdr.num; rw [if_neg hne, if_neg hg]
 have HQ := Hd hq0; obtain ⟨a, c, rfl, hb⟩ := h; have HB := Hd hb; have HA := Hd hA; have HLL := Hd hl; have HM := Hd (Mem.start0 w); obtain ⟨l, e0⟩ := r; dsimp only at HB HLL ⊢; clear hb hA hl; dsimp only at hr; subst hr; clear hq0 hne; go_enter Tryz.func219, Tryz.ntmps219
 have fM := HM.out.fa; go_wp2_with fail; all_goals clear fM
 refine nxt HM fun w1 M => ?_
 replace HM := M; clear M; refine cret (rtake_any w1 _ l HLL.out (HB.out.ext HM.out.extTo)) ?_; obtain ⟨hk1, hk2, hk3⟩ := takeL_k l; obtain ⟨k, hk⟩ : ∃ k, (takeL l).2 = k := ⟨_, rfl⟩; obtain ⟨n, hn⟩ : ∃ n, (takeL l).1 = n := ⟨_, rfl⟩; rw [hk, hn] at HQ ⊢; rw [hk] at hk1 hk2 hk3; clear hk hn; by_cases hk : 0 < k ∧ (n : Int) ≤ g
 · rw [if_pos hk] at HQ
   obtain ⟨kn, rfl⟩ : ∃ kn : Nat, k = kn := ⟨k.toNat, by omega⟩; rw [Int.toNat_natCast] at HQ; have g1 : ¬ (kn : Int) ≤ 0 := by omega
   have g2 : ¬ g < (n : Int) := by omega
   have hkl : kn ≤ l.length := by omega
   have hsl := fun W => slice_l W a l.length c kn hkl
   have hb1 := HB.out.part kn l.length hkl (Nat.le_refl _); rw [List.take_length] at hb1; obtain ⟨a2, c2, e2⟩ := part_len (a := a) (i := kn) (j := l.length) (c := c) (s := 1); rw [e2] at hsl hb1; rw [show l.length - kn = (l.drop kn).length by rw [List.length_drop]] at hsl hb1; obtain ⟨d, hd⟩ : ∃ d, l.drop kn = d := ⟨_, rfl⟩; rw [hd] at hsl hb1 HQ; have HB1 := Hd hb1; clear hk hk1 hk2 hk3 hb1 e2 hd hkl; have fM := HM.out.fa; go_wp2_with fail; all_goals clear fM
   refine nxt HM fun w3 M => ?_
   replace HM := M; clear M; obtain ⟨Ahb, hb⟩ := HM.out.get (r := cellsR (w.heap.size + 1) 246 [.slice a2 d.length c2, .int .i64 0]) pk; have hcc := hb.2.reads.1; clear hb; refine bodyPost_ret (v := .tuple #[.agg [.slice a2 d.length c2, .int .i64 0].toArray, .int .i64 (n : Int), .int .i64 0]) (by simp [results, Tryz.results219, go_sem, hcc]) rfl ?_; clear hcc; rw [HQ.out]; exact ⟨⟨_, rfl, RdV.ext ⟨a2, c2, rfl, HB1.out⟩ HM.out.extTo⟩, HM.out.extTo⟩
 · rw [if_neg hk] at HQ
   by_cases hk0 : k ≤ 0
   · clear hk
     have fM := HM.out.fa; go_wp2_with fail; all_goals clear fM
     refine nxt HM fun w2 M => ?_
     replace HM := M; clear M; refine (rfail_any w2 _ 0 ⟨_, _, _, rfl⟩).mono ?_; rintro e w3 ⟨rfl, hE⟩; replace HM := Hd (HM.out.ext hE); clear hE; have fM := HM.out.fa; go_wp2_with fail; all_goals clear fM
     refine nxt HM fun w3 M => ?_
     replace HM := M; clear M; obtain ⟨Ahb, hb⟩ := HM.out.get (r := cellsR (w.heap.size + 1) 246 [.slice none 0 0, .int .i64 120]) pk; have hcc := hb.2.reads.1; clear hb; refine bodyPost_ret (v := .tuple #[.agg [.slice none 0 0, .int .i64 120].toArray, .int .i64 0, .int .i64 120]) (by simp [results, Tryz.results219, go_sem, hcc]) rfl ?_; clear hcc; rw [HQ.out]; exact ⟨⟨_, rfl, RdV.bad _ _⟩, HM.out.extTo⟩
   · have g2 : g < (n : Int) := by
      rcases Int.lt_or_le g n with h | h
      · exact h
      · exact absurd ⟨by omega, h⟩ hk
     clear hk; have fM := HM.out.fa; go_wp2_with fail; all_goals clear fM
     refine nxt HM fun w2 M => ?_
     replace HM := M; clear M; refine (rfail_any w2 _ 0 ⟨_, _, _, rfl⟩).mono ?_; rintro e w3 ⟨rfl, hE⟩; replace HM := Hd (HM.out.ext hE); clear hE; have fM := HM.out.fa; go_wp2_with fail; all_goals clear fM
     refine nxt HM fun w3 M => ?_
     replace HM := M; clear M; obtain ⟨Ahb, hb⟩ := HM.out.get (r := cellsR (w.heap.size + 1) 246 [.slice none 0 0, .int .i64 120]) pk; have hcc := hb.2.reads.1; clear hb; refine bodyPost_ret (v := .tuple #[.agg [.slice none 0 0, .int .i64 120].toArray, .int .i64 0, .int .i64 120]) (by simp [results, Tryz.results219, go_sem, hcc]) rfl ?_; clear hcc; rw [HQ.out]; exact ⟨⟨_, rfl, RdV.bad _ _⟩, HM.out.extTo⟩
theorem rvtxt_any {A : Nat → Prop} (w : World) (r : Rdr) (x : Value) (g : Int) (hl : r.b.length ≤ 70368744177664) (h : RdV A w r x) (hA : ∀ k, A k → k < w.heap.size) :
 Calls Tryz.prog 221 #[x, .int .i64 g] w fun e w' => (∃ y, e = .returned (.tuple #[y, .string (bs (r.txt g).2.1), .int .i64 (r.txt g).2.2]) ∧ RdV A w' (r.txt g).1 y) ∧ Ext w w' := by
 have hsp : r.txt g = r.txt g := rfl; conv at hsp => rhs; unfold Rdr.txt
 have HQ := Hd hsp; have HX := Hd h; have HL0 := Hd hl; obtain ⟨q, hq⟩ : ∃ q, r.num g = q := ⟨_, rfl⟩; have HNQ := Hd hq
 have hlq : q.1.b.length ≤ r.b.length := by
  rw [← hq]; unfold Rdr.num; split
  · exact Nat.le_refl _
  · split
    · exact Nat.le_refl _
    · split
      · dsimp only; rw [List.length_drop]; omega
      · exact Nat.zero_le _
 rw [hq] at HQ; clear hsp hq; obtain ⟨r', n, no⟩ := q; dsimp only at hlq; have HA := Hd hA; obtain ⟨a, c, rfl, hb⟩ := h; have HM := Hd (Mem.start0 w); clear hb hA; go_enter Tryz.func221, Tryz.ntmps221
 have fM := HM.out.fa; go_wp2_with fail; all_goals clear fM
 refine nxt HM fun w1 M => ?_
 replace HM := M; clear M; have hsz := HM.out.keepsTo.size; refine (rvnum_any w1 r _ g HL0.out (HX.out.ext HM.out.extTo) (fun k hk => Nat.lt_of_lt_of_le (HA.out k hk) hsz)).mono ?_; rintro e w2 ⟨⟨y, rfl, hy⟩, hE⟩; rw [HNQ.out] at hy ⊢; replace HM := Hd (HM.out.ext hE); obtain ⟨a2, c2, rfl, hb2⟩ := hy; have HB2 := Hd (hb2.swap HA.out HM.out.extTo (Keeps.refl _ w)); obtain ⟨l, e0⟩ := r'; dsimp only at HB2 HQ hlq ⊢; have HLQ := Hd hlq; clear hE hb2 hlq hsz; by_cases hno : no = 0
 case neg =>
  rw [if_pos hno] at HQ; have hno' : (no == 0) = false := by simpa using hno
  clear hno; have fM := HM.out.fa; go_wp2_with fail; all_goals clear fM
  refine nxt HM fun w3 M => ?_
  replace HM := M; clear M; obtain ⟨Ahb, hb⟩ := HM.out.get (r := cellsR (w.heap.size + 1) 246 [.slice a2 l.length c2, .int .i64 e0]) pk; have hcc := hb.2.reads.1; clear hb; refine bodyPost_ret (v := .tuple #[.agg [.slice a2 l.length c2, .int .i64 e0].toArray, .string ⟨#[]⟩, .int .i64 no]) (by simp [results, Tryz.results221, go_sem, hcc]) rfl ?_; clear hcc; rw [HQ.out]; exact ⟨⟨_, rfl, RdV.ext ⟨a2, c2, rfl, HB2.out⟩ HM.out.extTo⟩, HM.out.extTo⟩
 subst hno; rw [if_neg (by simp)] at HQ; by_cases hn : n ≤ l.length
 case neg =>
  rw [if_neg hn] at HQ; have hn' : (l.length : Int) < (n : Int) := by omega
  clear hn; have fM := HM.out.fa; go_wp2_with fail; all_goals clear fM
  refine nxt HM fun w4 M => ?_
  replace HM := M; clear M; refine (rfail_any w4 _ _ ⟨_, _, _, rfl⟩).mono ?_; rintro e w5 ⟨rfl, hE⟩; replace HM := Hd (HM.out.ext hE); clear hE; have fM := HM.out.fa; go_wp2_with fail; all_goals clear fM
  refine nxt HM fun w3 M => ?_
  replace HM := M; clear M; obtain ⟨Ahb, hb⟩ := HM.out.get (r := cellsR (w.heap.size + 1) 246 [.slice none 0 0, .int .i64 120]) pk; have hcc := hb.2.reads.1; clear hb; refine bodyPost_ret (v := .tuple #[.agg [.slice none 0 0, .int .i64 120].toArray, .string ⟨#[]⟩, .int .i64 120]) (by simp [results, Tryz.results221, go_sem, hcc]) rfl ?_; clear hcc; rw [HQ.out]; exact ⟨⟨_, rfl, RdV.bad _ _⟩, HM.out.extTo⟩
 rw [if_pos hn] at HQ; have hn' : ¬ (l.length : Int) < (n : Int) := by omega
 have hcap := HB2.out.cap; have hsl := fun W => slice_l W a2 l.length c2 n hn
 have hsh := fun W => slice_h W a2 l.length c2 n (by omega)
 have hb1 := HB2.out.part n l.length hn (Nat.le_refl _); have hb0 := HB2.out.part 0 n (by omega) hn; rw [List.take_length] at hb1; rw [List.drop_zero] at hb0; obtain ⟨a3, c3, e3⟩ := part_len (a := a2) (i := n) (j := l.length) (c := c2) (s := 1); obtain ⟨a4, c4, e4⟩ := part_len (a := a2) (i := 0) (j := n) (c := c2) (s := 1); rw [e3] at hsl hb1; rw [e4, Nat.sub_zero] at hsh hb0; rw [show l.length - n = (l.drop n).length by rw [List.length_drop]] at hsl hb1; obtain ⟨d, hd⟩ : ∃ d, l.drop n = d := ⟨_, rfl⟩; obtain ⟨s, hs⟩ : ∃ s, l.take n = s := ⟨_, rfl⟩; have hsn : s.length = n := by rw [← hs, List.length_take]; omega
 rw [hd] at hsl hb1 HQ; rw [hs] at hb0 HQ; have HB1 := Hd hb1; have HB0 := Hd hb0; clear hb1 hb0 e3 e4 hd hs hn hcap; have fM := HM.out.fa; go_wp2_with fail; all_goals clear fM
 refine nxt HM fun w4 M => ?_
 replace HM := M; clear M; have hE4 := HM.out.extTo
 have hkk : ∀ y : KeepsW (OneB (w.heap.size + 1)) w4, (convert 27 9 (.slice a4 n c4)).run Tryz.prog y.w = .ok (.string (bs s)) y.w := fun y =>
  ((HB0.out.ext hE4).keeps y.h (fun k hk he => by have := HA.out k hk; have : k = w.heap.size + 1 := he; omega)).str
 clear hE4; have fM := HM.out.fa; have hE0 : Keeps (OneB (w.heap.size + 1)) w4 w4.drew := (Keeps.refl _ _).drew; refine rgK (OneB (w.heap.size + 1)) [(0, 0), (3, 1), (0, 2), (0, 3), (0, 4), (0, 5), (1, 6), (0, 7), (0, 8), (1, 9), (2, 10), (0, 11), (0, 12)] [6, 9] [10] [] ?_; simp only [planL, nL]; iterate 10 (first | (refine pM _ rfl rfl ?_; simp only [nP, nE]) | (refine pR (by rfl) (fun W => by go_simp <;> with_reducible rfl) ?_; simp only [nP]) | (refine pX (by rfl) (by go_simp <;> with_reducible rfl) ?_; simp only [nP]) | (refine pK (by rfl) (fun W => by go_simp <;> with_reducible rfl) ?_; simp only [nP]))
 refine plan_does rfl (fun K hK => ?_); go_wp2_with fail; refine ⟨ClsK.of (by repeat (first | assumption | exact Keeps.refl _ _ | refine Keeps.alloc ?_ _ | refine Keeps.setOne ?_ _ _ | refine Keeps.setCell ?_ _ _ (.inl (by first | rfl | exact .inl rfl | exact .inr rfl | omega)) | refine Keeps.drew ?_)), ?_⟩; try simp only [nP]
 refine pA _ rfl rfl ?_; simp only [nP, nE]; refine pA _ rfl rfl ?_; simp only [nP, Act.eval]; refine plan_nil ?_; simp only [tailL, List.filterMap_nil]; go_wp2_with fail; clear fM; clear hE0; refine nxt HM fun w3 M => ?_
 replace HM := M; clear M; obtain ⟨Ahb, hb⟩ := HM.out.get (r := cellsR (w.heap.size + 1) 246 [.slice a3 d.length c3, .int .i64 0]) pk; have hcc := hb.2.reads.1; clear hb; refine bodyPost_ret (v := .tuple #[.agg [.slice a3 d.length c3, .int .i64 0].toArray, .string (bs s), .int .i64 0]) (by simp [results, Tryz.results221, go_sem, hcc]) rfl ?_; clear hcc; rw [HQ.out]; exact ⟨⟨_, rfl, RdV.ext ⟨a3, c3, rfl, HB1.out⟩ HM.out.extTo⟩, HM.out.extTo⟩
theorem rvtru_any {A : Nat → Prop} (w : World) (r : Rdr) (x : Value) (hl : r.b.length ≤ 70368744177664) (h : RdV A w r x) (hA : ∀ k, A k → k < w.heap.size) :
 Calls Tryz.prog 173 #[x] w fun e w' => (∃ y, e = .returned (.tuple #[y, .bool r.tru.2.1, .int .i64 r.tru.2.2]) ∧ RdV A w' r.tru.1 y) ∧ Ext w w' := by
 obtain ⟨l, e0⟩ := r; by_cases hr : e0 = 0
 case neg =>
  have hq : Rdr.tru ⟨l, e0⟩ = (⟨l, e0⟩, false, e0) := by unfold Rdr.tru; exact if_pos hr
  have HQ := Hd hq; obtain ⟨a, c, rfl, hb⟩ := h; have HB := Hd hb; have HA := Hd hA; have HLL := Hd hl; have HM := Hd (Mem.start0 w); clear hb hA hl; dsimp only at HB ⊢; have hr' : (e0 == 0) = false := by simpa using hr
  clear hr hq; go_enter Tryz.func173, Tryz.ntmps173
  have fM := HM.out.fa; go_wp2_with fail; all_goals clear fM
  refine nxt HM fun w1 M => ?_
  replace HM := M; clear M; have fM := HM.out.fa; have hE0 : Keeps (OneB (w.heap.size + 1)) w1 w1.drew := (Keeps.refl _ _).drew; refine rgK (OneB (w.heap.size + 1)) [(3, 0), (0, 1), (1, 2), (2, 3), (0, 4), (0, 5)] [2] [3] [] ?_; simp only [planL, nL]; refine pX rfl (by go_simp <;> with_reducible rfl) ?_; simp only [nP]; refine pR rfl (fun W => by go_simp <;> with_reducible rfl) ?_; simp only [nP]; refine pK rfl (fun W => by go_simp <;> with_reducible rfl) ?_; simp only [nP]; refine plan_does rfl (fun K hK => ?_); go_wp2_with fail; refine ⟨ClsK.of (by repeat (first | assumption | exact Keeps.refl _ _ | refine Keeps.alloc ?_ _ | refine Keeps.setOne ?_ _ _ | refine Keeps.setCell ?_ _ _ (.inl (by first | rfl | exact .inl rfl | exact .inr rfl | omega)) | refine Keeps.drew ?_)), ?_⟩; try simp only [nP]
  refine pA _ rfl rfl ?_; simp only [nP, Act.eval]; refine pA _ rfl rfl ?_; simp only [nP, nE]; refine plan_nil ?_; simp only [tailL, List.filterMap_nil]; go_wp2_with fail; clear fM; clear hE0; refine nxt HM fun w3 M => ?_
  replace HM := M; clear M; obtain ⟨Ahb, hb⟩ := HM.out.get (r := cellsR (w.heap.size + 1) 246 [.slice a l.length c, .int .i64 e0]) pk; have hcc := hb.2.reads.1; clear hb; refine bodyPost_ret (v := .tuple #[.agg [.slice a l.length c, .int .i64 e0].toArray, .bool false, .int .i64 e0]) (by simp [results, Tryz.results173, go_sem, hcc]) rfl ?_; clear hcc; rw [HQ.out]; exact ⟨⟨_, rfl, RdV.ext ⟨a, c, rfl, HB.out⟩ HM.out.extTo⟩, HM.out.extTo⟩
 subst hr; cases l with
 | nil =>
   have HQ := Hd (show Rdr.tru ⟨[], 0⟩ = (Rdr.bad, false, 120) from rfl); obtain ⟨a, c, rfl, hb⟩ := h; have HB := Hd hb; have HA := Hd hA; have HLL := Hd hl; have HM := Hd (Mem.start0 w); clear hb hA hl; go_enter Tryz.func173, Tryz.ntmps173
   have fM := HM.out.fa; go_wp2_with fail; all_goals clear fM
   refine nxt HM fun w2 M => ?_
   replace HM := M; clear M; refine (rfail_any w2 _ 0 ⟨_, _, _, rfl⟩).mono ?_; rintro e w3 ⟨rfl, hE⟩; replace HM := Hd (HM.out.ext hE); clear hE; have fM := HM.out.fa; go_wp2_with fail; all_goals clear fM
   refine nxt HM fun w3 M => ?_
   replace HM := M; clear M; obtain ⟨Ahb, hb⟩ := HM.out.get (r := cellsR (w.heap.size + 1) 246 [.slice none 0 0, .int .i64 120]) pk; have hcc := hb.2.reads.1; clear hb; refine bodyPost_ret (v := .tuple #[.agg [.slice none 0 0, .int .i64 120].toArray, .bool false, .int .i64 120]) (by simp [results, Tryz.results173, go_sem, hcc]) rfl ?_; clear hcc; rw [HQ.out]; exact ⟨⟨_, rfl, RdV.bad _ _⟩, HM.out.extTo⟩
 | cons z l =>
   obtain ⟨m, hm⟩ : ∃ m, z :: l = m := ⟨_, rfl⟩; have hm1 : 1 ≤ m.length := by rw [← hm]; simp
   by_cases hc : z.toNat ≤ 1
   · have hq : Rdr.tru ⟨z :: l, 0⟩ = (⟨l, 0⟩, z.toNat == 1, 0) := by
      unfold Rdr.tru; exact (if_neg (by simp)).trans (if_pos hc)
     have HQ := Hd hq; clear hq; rw [hm] at h hl HQ ⊢; have HMM := Hd hm; obtain ⟨a, c, rfl, hb⟩ := h; have HB := Hd hb; have HA := Hd hA; have HLL := Hd hl; have HM := Hd (Mem.start0 w); clear hb hA hl; dsimp only at HB HLL ⊢; have hcap := HB.out.cap; have hsl : ∀ W, (Instr.sliceAt 27 (.slice a m.length c) (some (.int .i64 1)) none none).run Tryz.prog W = .ok (sliced a 1 m.length c 1) W := fun W => slice_l W a m.length c 1 hm1
     have hb1 := HB.out.part 1 m.length hm1 (Nat.le_refl _); rw [List.take_length, ← hm] at hb1; have hb1' : Bytes w A (sliced a 1 (z :: l).length c 1) l := hb1; rw [hm] at hb1'; obtain ⟨a3, c3, e3⟩ := part_len (a := a) (i := 1) (j := m.length) (c := c) (s := 1); rw [e3] at hsl hb1'; rw [show m.length - 1 = l.length by rw [← hm]; simp] at hsl hb1'; have HB1 := Hd hb1'; obtain ⟨g, o, rfl, hAg, hg, hcl⟩ := HB.out.at 0 hm1; have hcl' : w.cell? ⟨g, o, none⟩ = some (.int .u8 (z.toNat : Int)) := by subst hm; exact hcl
     have hc1 : ¬ (1 : Int) < (z.toNat : Int) := by omega
     have hcc : ((z.toNat : Int) == 1) = (z.toNat == 1) := by rw [Bool.eq_iff_iff]; simp; omega
     have g1 : (0 : Int) < (m.length : Int) := by omega
     have g0 : ((m.length : Int) == 0) = false := by simpa using (by omega : ¬ (m.length : Int) = 0)
     clear hb1 hb1' hcl e3 hAg hm hcap; go_enter Tryz.func173, Tryz.ntmps173
     have fM := HM.out.fa; go_wp2_with fail; all_goals clear fM
     refine nxt HM fun w1 M => ?_
     replace HM := M; clear M; have hgl : w1.cell? ⟨g, o, none⟩ = some (.int .u8 (z.toNat : Int)) := (HM.out.extTo).cell hcl'; have hgs : g < w1.heap.size := Nat.lt_of_lt_of_le hg HM.out.extTo.size; have hgn : ¬ g = w.heap.size + 1 := by omega
     have hgn' : ¬ w.heap.size + 1 = g := by omega
     have g3 : 0 < m.length := hm1; clear hcl' hg; have fM := HM.out.fa; have hE0 : Keeps (OneB (w.heap.size + 1)) w1 w1.drew := (Keeps.refl _ _).drew; refine rgK (OneB (w.heap.size + 1)) [(0, 0), (3, 1), (0, 2), (0, 3), (0, 4), (1, 5), (0, 6), (1, 7), (0, 8), (2, 9), (0, 10), (0, 11)] [5, 7] [9] [] ?_; simp only [planL, nL]; iterate 9 (first | (refine pR (by rfl) (fun W => by go_simp <;> with_reducible rfl) ?_; simp only [nP]) | (refine pX (by rfl) (by go_simp <;> with_reducible rfl) ?_; simp only [nP]) | (refine pK (by rfl) (fun W => by go_simp <;> with_reducible rfl) ?_; simp only [nP]))
     refine plan_does rfl (fun K hK => ?_); go_wp2_with fail; refine ⟨ClsK.of (by repeat (first | assumption | exact Keeps.refl _ _ | refine Keeps.alloc ?_ _ | refine Keeps.setOne ?_ _ _ | refine Keeps.setCell ?_ _ _ (.inl (by first | rfl | exact .inl rfl | exact .inr rfl | omega)) | refine Keeps.drew ?_)), ?_⟩; try simp only [nP]
     refine pA _ rfl rfl ?_; simp only [nP, nE]; refine pA _ rfl rfl ?_; simp only [nP, Act.eval]; refine plan_nil ?_; simp only [tailL, List.filterMap_nil]; go_wp2_with fail; clear fM; clear hE0 hgl hgs hgn hgn'; refine nxt HM fun w3 M => ?_
     replace HM := M; clear M; obtain ⟨Ahb, hb⟩ := HM.out.get (r := cellsR (w.heap.size + 1) 246 [.slice a3 l.length c3, .int .i64 0]) pk; have hcc := hb.2.reads.1; clear hb; refine bodyPost_ret (v := .tuple #[.agg [.slice a3 l.length c3, .int .i64 0].toArray, .bool (z.toNat == 1), .int .i64 0]) (by simp [results, Tryz.results173, go_sem, hcc]) rfl ?_; clear hcc; rw [HQ.out]; exact ⟨⟨_, rfl, RdV.ext ⟨a3, c3, rfl, HB1.out⟩ HM.out.extTo⟩, HM.out.extTo⟩
   · have hq : Rdr.tru ⟨z :: l, 0⟩ = (Rdr.bad, false, 120) := by
      unfold Rdr.tru; exact (if_neg (by simp)).trans (if_neg hc)
     have HQ := Hd hq; clear hq; rw [hm] at h hl HQ ⊢; have HMM := Hd hm; obtain ⟨a, c, rfl, hb⟩ := h; have HB := Hd hb; have HA := Hd hA; have HLL := Hd hl; have HM := Hd (Mem.start0 w); clear hb hA hl; dsimp only at HB HLL ⊢; obtain ⟨g, o, rfl, hAg, hg, hcl⟩ := HB.out.at 0 hm1; have hcl' : w.cell? ⟨g, o, none⟩ = some (.int .u8 (z.toNat : Int)) := by subst hm; exact hcl
     have hc1 : (1 : Int) < (z.toNat : Int) := by omega
     have g1 : (0 : Int) < (m.length : Int) := by omega
     have g0 : ((m.length : Int) == 0) = false := by simpa using (by omega : ¬ (m.length : Int) = 0)
     clear hcl hAg hm; go_enter Tryz.func173, Tryz.ntmps173
     have fM := HM.out.fa; go_wp2_with fail; all_goals clear fM
     refine nxt HM fun w2 M => ?_
     replace HM := M; clear M; refine (rfail_any w2 _ 0 ⟨_, _, _, rfl⟩).mono ?_; rintro e w3 ⟨rfl, hE⟩; replace HM := Hd (HM.out.ext hE); clear hE; have fM := HM.out.fa; go_wp2_with fail; all_goals clear fM
     refine nxt HM fun w3 M => ?_
     replace HM := M; clear M; obtain ⟨Ahb, hb⟩ := HM.out.get (r := cellsR (w.heap.size + 1) 246 [.slice none 0 0, .int .i64 120]) pk; have hcc := hb.2.reads.1; clear hb; refine bodyPost_ret (v := .tuple #[.agg [.slice none 0 0, .int .i64 120].toArray, .bool false, .int .i64 120]) (by simp [results, Tryz.results173, go_sem, hcc]) rfl ?_; clear hcc; rw [HQ.out]; exact ⟨⟨_, rfl, RdV.bad _ _⟩, HM.out.extTo⟩
end Go.Proofs.YtoadjbgpfihoiaaGreatDoor
