/- The statement RingBounds: its function returns true, and of what was there nothing turns. -/
import Derived.Test.YtocjnieehogcbaaRingM
set_option linter.unusedVariables false
set_option maxHeartbeats 400000
namespace Go.Proofs.Ytocjnieehogcbaa
open Go.RowKit

def xX : It := ⟨false, 0, [120]⟩
theorem findIdx_rep (p : It → Bool) (n : Nat) (x : It) (h : p x = false) : (List.replicate n x).findIdx? p = none := by
  rw [List.findIdx?_eq_none_iff]
  intro y hy
  rw [List.eq_of_mem_replicate hy]; exact h
theorem put_rep_lt (m n : Nat) (h : n < m) : AR.put ⟨m, 0, List.replicate n xX⟩ xX = (⟨m, 0, List.replicate (n + 1) xX⟩, 0, 0) := by
  unfold AR.put
  rw [if_neg (by decide), if_neg (by decide)]
  simp only [findIdx_rep (p33 xX) n xX (by rfl), List.length_replicate, h, if_true, List.replicate_succ']
theorem put_rep_ge (m n : Nat) (h : ¬ n < m) : AR.put ⟨m, 0, List.replicate n xX⟩ xX = (⟨m, 0, List.replicate n xX⟩, 0, 350) := by
  unfold AR.put
  rw [if_neg (by decide), if_neg (by decide)]
  simp only [findIdx_rep (p33 xX) n xX (by rfl), findIdx_rep p34 n xX (by rfl), List.length_replicate, h, if_false]
  rfl
theorem put_1024 (m : Nat) (h : 1 ≤ m) (l : List UInt8) (hl : l.length = 1024) : AR.put ⟨m, 0, []⟩ ⟨false, 0, l⟩ = (⟨m, 0, [⟨false, 0, l⟩]⟩, 0, 0) := by
  unfold AR.put
  rw [if_neg (by simp), if_neg (by simp; omega)]
  simp; omega
theorem put_1025 (m : Nat) (its : List It) (l : List UInt8) (hl : l.length = 1025) : AR.put ⟨m, 0, its⟩ ⟨false, 0, l⟩ = (⟨m, 0, its⟩, 0, 3) := by
  unfold AR.put
  rw [if_neg (by simp), if_pos (by simp; omega)]

theorem Box.bytes {w : World} {b n : Nat} {l : List UInt8} (h : Box w b 5 (l.map byV)) (hn : n = l.length) : Bytes w (fun k => k = b) (.slice (some ⟨b, 0, none⟩) n n) l := by
  subst hn
  refine .inr ⟨b, 0, _, rfl, Nat.le_refl _, rfl, fun i hi => ?_⟩
  unfold ByteAt
  rw [Nat.zero_add, Nat.mul_one, h.reads.1]
  simp [hi]

theorem bounds_out (most many : Int) (w : World) (h : ¬ (1 ≤ most ∧ most ≤ 64 ∧ 0 ≤ many ∧ many ≤ 70)) :
    Calls Try.prog 3 #[.int .i64 most, .int .i64 many] w fun e w' => e = .returned (.bool true) ∧ Ext w w' := by
  by_cases h1 : most < 1
  all_goals by_cases h2 : 64 < most
  all_goals by_cases h3 : many < 0
  all_goals by_cases h4 : 70 < many
  all_goals first | (exfalso; omega) | skip
  all_goals
    clear h
    go_enter Try.func3, Try.ntmps3
    go_wp2_with fail
    refine (works_any _).mono ?_
    rintro e w' ⟨rfl, hE⟩
    have HE := Lib.hid hE
    clear hE
    go_wp2_with fail
    go_ret
    exact ⟨rfl, HE.out⟩

theorem bounds_in (m k : Nat) (w : World) (h1 : 1 ≤ m) (h2 : m ≤ 64) (h4 : k ≤ 70) :
    Calls Try.prog 3 #[.int .i64 (m : Int), .int .i64 (k : Int)] w fun e w' => e = .returned (.bool true) ∧ Ext w w' := by
  have g1 : ¬ ((m : Int) < 1) := by omega
  have g2 : ¬ (64 < (m : Int)) := by omega
  have g3 : ¬ ((k : Int) < 0) := by omega
  have g4 : ¬ (70 < (k : Int)) := by omega
  go_enter Try.func3, Try.ntmps3
  go_wp2_with fail
  refine (new_x NoB w m h1 h2 (fun _ h => h.elim) _ rfl).mono ?_
  rintro e w1 ⟨b, rfl, hr, hE, hb⟩
  have HR1 := Lib.hid hr
  have HE1 := Lib.hid hE
  have HB := Lib.hid hb
  clear hr hE hb
  go_wp2_with fail
  go_loopw [7] (fun i wr => ∃ n : Nat, n ≤ k ∧ i = .int .i64 n ∧ Hid (RingX wr NoB b ⟨m, 0, List.replicate (min n m) xX⟩ ∧ Ext w wr)) (fun i _ => k - (intOf i).toNat)
  case atStart => exact ⟨0, Nat.zero_le _, rfl, by simpa using HR1.out, HE1.out⟩
  case round =>
    obtain ⟨n, hn, rfl, hh⟩ := hrel
    by_cases hlt : n < k
    · have HR := Lib.hid hh.out.1
      have HE := Lib.hid hh.out.2
      clear hh
      by_cases hnm : n < m
      · go_wp2_with fail
        refine (main_any [120] _).mono ?_
        rintro e V1 ⟨v, rfl, hv, hE⟩
        have hB := HR.out.lt
        have HRv := Lib.hid (HR.out.ext hE)
        have HEv := Lib.hid (HE.out.ext hE)
        have HV := Lib.hid hv
        obtain ⟨v, rfl, -⟩ := hv
        clear hE HR HE
        go_wp2_with fail
        have hp := put_rep_lt m n hnm
        have hmn : min n m = n := by omega
        have hmn1 : min (n + 1) m = n + 1 := by omega
        refine (put_x (N := NoB) _ b _ _ xX _ 0 0 0 0 hp rfl rfl (by have := HRv.out; rwa [hmn] at this) HV.out (by omega) (fun _ h => h.elim) (by decide) (Nat.zero_le _)).mono ?_
        rintro e w2 ⟨rfl, hr, hk⟩
        have HR := Lib.hid hr
        have HE : Hid (Ext w w2) := HEv.out.then hk (fun i hi h => by have := HB.out; unfold OneB at h; omega)
        clear hr hk HRv HV HEv hB hp hmn
        go_wp2_with fail
        refine (num_any _ _).mono ?_
        rintro e w' ⟨rfl, rfl⟩
        go_wp2_with fail
        refine (num_any _ _).mono ?_
        rintro e w' ⟨rfl, rfl⟩
        go_wp2_with fail
        go_roundw
        case rel => exact ⟨n + 1, by omega, by go_num, by rw [hmn1]; exact HR.out, HE.out⟩
        case measure => simp [intOf]; omega
      · go_wp2_with fail
        refine (main_any [120] _).mono ?_
        rintro e V1 ⟨v, rfl, hv, hE⟩
        have hB := HR.out.lt
        have HRv := Lib.hid (HR.out.ext hE)
        have HEv := Lib.hid (HE.out.ext hE)
        have HV := Lib.hid hv
        obtain ⟨v, rfl, -⟩ := hv
        clear hE HR HE
        go_wp2_with fail
        have hp := put_rep_ge m m (by omega)
        have hmn : min n m = m := by omega
        have hmn1 : min (n + 1) m = m := by omega
        refine (put_x (N := NoB) _ b _ _ xX _ 0 350 0 350 hp rfl rfl (by have := HRv.out; rwa [hmn] at this) HV.out (by omega) (fun _ h => h.elim) (by decide) (Nat.zero_le _)).mono ?_
        rintro e w2 ⟨rfl, hr, hk⟩
        have HR := Lib.hid hr
        have HE : Hid (Ext w w2) := HEv.out.then hk (fun i hi h => by have := HB.out; unfold OneB at h; omega)
        clear hr hk HRv HV HEv hB hp hmn
        go_wp2_with fail
        refine (num_any _ _).mono ?_
        rintro e w' ⟨rfl, rfl⟩
        go_wp2_with fail
        refine (num_any _ _).mono ?_
        rintro e w' ⟨rfl, rfl⟩
        go_wp2_with fail
        refine (num_any _ _).mono ?_
        rintro e w' ⟨rfl, rfl⟩
        go_wp2_with fail
        go_roundw
        case rel => exact ⟨n + 1, by omega, by go_num, by rw [hmn1]; exact HR.out, HE.out⟩
        case measure => simp [intOf]; omega
    · have HR := Lib.hid hh.out.1
      have HE := Lib.hid hh.out.2
      clear hh HR1 HE1
      go_wp2_with fail
      refine (clear_x _ b m 0 _ HR.out).mono ?_
      rintro e w2 ⟨rfl, hr, hk⟩
      have HR2 := Lib.hid hr
      have HE2 : Hid (Ext w w2) := HE.out.then hk (fun i hi h => by have := HB.out; unfold OneB at h; omega)
      clear hr hk HR HE
      obtain ⟨w3, hmk, hbx, hE, hs⟩ := make_bytes w2 1024 (by omega) 1024 rfl
      have HV3 := Lib.hid (hbx.bytes (n := 1024) List.length_replicate.symm)
      have hB := HR2.out.lt
      have HR3 := Lib.hid (HR2.out.ext hE)
      have HE3 := Lib.hid (HE2.out.ext hE)
      have HS := Lib.hid hs
      clear HR2 HE2 hE hbx hs
      go_wp2_with fail
      refine (put_x (N := NoB) _ b _ _ ⟨false, 0, List.replicate 1024 0⟩ _ 0 0 0 0 (put_1024 m h1 _ List.length_replicate) rfl rfl HR3.out ⟨_, rfl, HV3.out⟩ (by omega) (fun _ h => h.elim) (by rw [List.length_replicate]; omega) (Nat.zero_le _)).mono ?_
      rintro e w4 ⟨rfl, hr, hk⟩
      have HR4 := Lib.hid hr
      have HE4 : Hid (Ext w w4) := HE3.out.then hk (fun i hi h => by have := HB.out; unfold OneB at h; omega)
      clear hr hk HR3 HE3 HV3 HS hB hmk
      obtain ⟨w5, hmk, hbx, hE, hs⟩ := make_bytes w4 1025 (by omega) 1025 rfl
      have HV3 := Lib.hid (hbx.bytes (n := 1025) List.length_replicate.symm)
      have hB := HR4.out.lt
      have HR5 := Lib.hid (HR4.out.ext hE)
      have HE5 := Lib.hid (HE4.out.ext hE)
      clear HR4 HE4 hE hbx hs
      go_wp2_with fail
      refine (put_x (N := NoB) _ b _ _ ⟨false, 0, List.replicate 1025 0⟩ _ 0 3 0 3 (put_1025 m _ _ List.length_replicate) rfl rfl HR5.out ⟨_, rfl, HV3.out⟩ (by omega) (fun _ h => h.elim) (by rw [List.length_replicate]; omega) (Nat.zero_le _)).mono ?_
      rintro e w6 ⟨rfl, hr, hk⟩
      have HR6 := Lib.hid hr
      have HE6 : Hid (Ext w w6) := HE5.out.then hk (fun i hi h => by have := HB.out; unfold OneB at h; omega)
      clear hr hk HR5 HE5 HV3 hB hmk
      go_wp2_with fail
      refine (len_x _ b _ HR6.out (by intro x hx; rw [List.mem_singleton] at hx; subst hx; rw [List.length_replicate]; omega)).mono ?_
      rintro e w7 ⟨rfl, hE⟩
      have hma : mains [(⟨false, 0, List.replicate 1024 0⟩ : It)] = 1 := rfl
      have hsi : sides [(⟨false, 0, List.replicate 1024 0⟩ : It)] = 0 := rfl
      dsimp only
      rw [hma, hsi]
      have HE7 := Lib.hid (HE6.out.ext hE)
      clear hE HE6 HR6 hma hsi
      go_wp2_with fail
      refine (num_any _ _).mono ?_
      rintro e w' ⟨rfl, rfl⟩
      go_wp2_with fail
      refine (num_any _ _).mono ?_
      rintro e w' ⟨rfl, rfl⟩
      go_wp2_with fail
      refine (num_any _ _).mono ?_
      rintro e w' ⟨rfl, rfl⟩
      go_wp2_with fail
      refine (works_any _).mono ?_
      rintro e w' ⟨rfl, hE⟩
      have HE8 := Lib.hid (HE7.out.ext hE)
      clear hE
      go_wp2_with fail
      go_ret
      exact ⟨rfl, HE8.out⟩
end Go.Proofs.Ytocjnieehogcbaa
