/- The walk of NetBounds: its function returns true, and of what was there nothing turns. No further condition. -/
import Derived.Test.YtdiogipdcpiffaaNetW
set_option linter.unusedVariables false
set_option maxHeartbeats 400000
set_option maxRecDepth 10000
namespace Go.Proofs.Ytdiogipdcpiffaa
open Go.RowKit

theorem Box.bytes' {w : World} {b n : Nat} {t : TypeId} {l : List UInt8} (h : Box w b t (l.map byV)) (hn : n = l.length) : Bytes w (OneB b) (.slice (some ⟨b, 0, none⟩) n n) l := by
  subst hn
  refine .inr ⟨b, 0, l.length, rfl, Nat.le_refl _, rfl, fun i hi => ?_⟩
  have := h.reads.1 i
  unfold ByteAt
  simpa [hi] using this
def bL (n : Nat) : List Pc := (List.range n).map fun i => ⟨i, ((i % 64 : Nat) : Int), 63, []⟩
def bN (m n : Nat) : NA := ⟨64, m, n, bL n, []⟩
theorem bL_len (n : Nat) : (bL n).length = n := by simp [bL]
theorem bL_succ (n : Nat) : bL (n + 1) = bL n ++ [⟨n, ((n % 64 : Nat) : Int), 63, []⟩] := by simp [bL, List.range_succ]
theorem bEnd (m n : Nat) (l : List Pc) (i : Int) (h0 : 0 ≤ i) (h1 : i < 64) : NA.endB ⟨64, m, n, l, []⟩ i = true := by rw [endB_iff]; exact ⟨h0, h1⟩
theorem bErr (m n : Nat) (l : List Pc) (f t : Int) (k : Nat) (h0 : 0 ≤ f ∧ f < 64) (h1 : 0 ≤ t ∧ t < 64) : NA.putErr ⟨64, m, n, l, []⟩ f t k = if 8192 < k then 3 else if m ≤ l.length then 211 else 0 := by
  unfold NA.putErr
  rw [bEnd _ _ _ _ h0.1 h0.2, bEnd _ _ _ _ h1.1 h1.2]
  simp
theorem putR_ok {N : NA} {f t : Int} {l : List UInt8} (h : N.putErr f t l.length = 0) : N.putR f t l = (N.put f t l, N.came, 0) := by unfold NA.putR; rw [if_pos h]
theorem putR_no {N : NA} {f t : Int} {l : List UInt8} {k : Nat} (h : N.putErr f t l.length = k) (h0 : k ≠ 0) : N.putR f t l = (N, 0, k) := by
  unfold NA.putR; subst h; rw [if_neg h0]
theorem bput (m n : Nat) (h : n < m) (f : Int) (hf : f = ((n % 64 : Nat) : Int)) : (bN m n).putR f 63 [] = (bN m (n + 1), n, 0) := by
  have hm : n % 64 < 64 := Nat.mod_lt _ (by decide)
  have he : (bN m n).putErr f 63 ([] : List UInt8).length = 0 := by
    unfold bN
    rw [bErr _ _ _ _ _ _ (by omega) (by omega), bL_len, if_neg (by simp), if_neg (by omega)]
  rw [putR_ok he]
  subst hf
  unfold NA.put bN
  rw [bL_succ]
theorem bput211 (m n : Nat) (h : m ≤ n) : (bN m n).putR 0 0 [] = (bN m n, 0, 211) := by
  refine putR_no ?_ (by decide)
  unfold bN
  rw [bErr _ _ _ _ _ _ (by omega) (by omega), bL_len, if_neg (by simp), if_pos h]
theorem bput3 (m n : Nat) (l : List UInt8) (h : l.length = 8193) : (bN m n).putR 0 0 l = (bN m n, 0, 3) := by
  refine putR_no ?_ (by decide)
  unfold bN
  rw [bErr _ _ _ _ _ _ (by omega) (by omega), h, if_pos (by omega)]
theorem onTo_all (l : List Pc) (k : Nat) (h : k ≤ l.length) : onTo (-1) (-1) l k = List.range k := by
  unfold onTo
  rw [List.filter_eq_self]
  intro i hi
  have hi' : i < k := by simpa using hi
  rw [List.getElem?_eq_getElem (by omega)]
  simp [NA.hit]
theorem NA.on_all (N : NA) : N.on (-1) (-1) = List.range N.l.length := onTo_all N.l _ (Nat.le_refl _)
theorem NA.link_all (N : NA) : N.link (-1) (-1) = true := by simp [NA.link]
theorem NA.len_all (N : NA) : N.lenR (-1) (-1) = N.l.length := by
  unfold NA.lenR
  rw [NA.link_all, if_pos rfl, NA.on_all]; simp
theorem bdrop (m n : Nat) (h : 0 < n) : (bN m n).dropR (-1) (-1) 0 = (⟨64, m, n, (bL n).drop 1, []⟩, 0, 0) := by
  have hi : (bN m n).iOf (-1) (-1) 0 = 0 := by
    unfold NA.iOf pickOf
    rw [NA.on_all]
    show (List.range (bL n).length).getD _ 0 = 0
    rw [bL_len, List.getD_eq_getElem?_getD]
    simp [List.getElem?_range h]
  have hp : (bN m n).pickErr (-1) (-1) = 0 := by
    unfold NA.pickErr
    rw [NA.link_all, NA.on_all, if_neg (by simp), if_neg (by
      intro h
      have := congrArg List.length h
      simp [bN, bL_len] at this
      omega)]
  have hg : (bN m n).got (-1) (-1) 0 = ⟨0, 0, 63, []⟩ := by
    unfold NA.got
    rw [hi]
    show ((bL n)[0]?).getD Pc.zero = _
    unfold bL
    rw [List.getElem?_map, List.getElem?_range h]
    rfl
  unfold NA.dropR
  rw [if_pos hp, hi, hg]
  rfl
theorem bput0 (m : Nat) (l : List UInt8) (h : l.length = 8192) (hm : 1 ≤ m) : NA.putR ⟨64, m, m, (bL m).drop 1, []⟩ 0 0 l = (⟨64, m, m + 1, (bL m).drop 1 ++ [⟨m, 0, 0, l⟩], []⟩, m, 0) := by
  have he : NA.putErr ⟨64, m, m, (bL m).drop 1, []⟩ 0 0 l.length = 0 := by
    rw [bErr _ _ _ _ _ _ (by omega) (by omega), h, List.length_drop, bL_len, if_neg (by omega), if_neg (by omega)]
  rw [putR_ok he]
  rfl
theorem bounds_out (m : Int) (w : World) (h : m < 1 ∨ 200 < m) :
    Calls Try.prog 3 #[.int .i64 m] w fun e w' => e = .returned (.bool true) ∧ Ext w w' := by
  rcases h with h | h
  · go_enter Try.func3, Try.ntmps3
    go_wp2_with fail
    refine (works_any _).mono ?_
    rintro e w' ⟨rfl, hE⟩
    have HE := Lib.hid hE
    clear hE
    go_wp2_with fail
    go_ret
    exact ⟨rfl, HE.out⟩
  · have h1 : ¬ m < 1 := by omega
    go_enter Try.func3, Try.ntmps3
    go_wp2_with fail
    refine (works_any _).mono ?_
    rintro e w' ⟨rfl, hE⟩
    have HE := Lib.hid hE
    clear hE
    go_wp2_with fail
    go_ret
    exact ⟨rfl, HE.out⟩
set_option maxRecDepth 100000 in
set_option maxHeartbeats 2000000 in
theorem bounds_in (m : Nat) (w : World) (h1 : 1 ≤ m) (h2 : m ≤ 200) :
    Calls Try.prog 3 #[.int .i64 (m : Int)] w fun e w' => e = .returned (.bool true) ∧ Ext w w' := by
  have g1 : ¬ ((m : Int) < 1) := by omega
  have g2 : ¬ (200 < (m : Int)) := by omega
  go_enter Try.func3, Try.ntmps3
  go_wp2_with fail
  refine (new_any w 64 m 64 m rfl rfl (by decide) (by decide) (by omega) (by omega)).mono ?_
  rintro e w1 ⟨b, rfl, hn, hE⟩
  have HR : Hid (∃ F M, Rig w w1 F M b (bN m 0)) := Lib.hid ⟨_, _, hn, fun k hk => hk.1, hE⟩
  clear hn hE
  go_wp2_with fail
  go_loopw [5] (fun i wr => ∃ n : Nat, n ≤ m ∧ i = .int .i64 n ∧ Hid (∃ F M, Rig w wr F M b (bN m n))) (fun i _ => m - (intOf i).toNat)
  case atStart => exact ⟨0, Nat.zero_le _, rfl, HR⟩
  case round =>
    obtain ⟨n, hn, rfl, hh⟩ := hrel
    obtain ⟨F, M, hrig⟩ := hh.out
    have HG := Lib.hid hrig
    clear hh hrig HR
    by_cases hlt : n < m
    · have hmod : ((n % 64 : Nat) : Int) = (n : Int) % 64 := by omega
      have hme : (n : Int).tmod 64 = (n : Int) % 64 := Int.tmod_eq_emod_of_nonneg (by omega)
      have hb0 : 0 ≤ (n : Int) % 64 := by omega
      have hb1 : (n : Int) % 64 < 64 := by omega
      have HM := Lib.hid hmod
      clear hmod
      go_wp2_with fail
      refine (put_any (B := NoB) wr b (bN m n) _ 63 _ [] HG.out.net (by unfold I64; omega) (by unfold I64; omega) SlV.nil (by decide) (by show n ≤ _; omega) (bN m (n + 1)) n 0 0 n (bput m n hlt _ HM.out.symm) rfl rfl).mono ?_
      rintro e w2 ⟨F', M', rfl, hn2, hs⟩
      have HR : Hid (∃ F M, Rig w w2 F M b (bN m (n + 1))) := Lib.hid ⟨_, _, HG.out.step hn2 hs⟩
      clear hn2 hs HG
      have hnn : ((n : Int) != (n : Int)) = false := by simp
      go_wp2_with fail
      refine (num_any _ _).mono ?_
      rintro e w' ⟨rfl, rfl⟩
      go_wp2_with fail
      go_roundw
      case rel => exact ⟨n + 1, by omega, by go_num, HR⟩
      case measure => simp [intOf]; omega
    · obtain rfl : n = m := by omega
      go_wp2_with fail
      refine (put_any (B := NoB) wr b (bN n n) 0 0 _ [] HG.out.net (by unfold I64; omega) (by unfold I64; omega) SlV.nil (by decide) (by show n ≤ _; omega) (bN n n) 0 211 211 0 (bput211 n n (Nat.le_refl _)) rfl rfl).mono ?_
      rintro e w2 ⟨F', M', rfl, hn2, hs⟩
      replace HG := Lib.hid (HG.out.step hn2 hs)
      clear hn2 hs
      obtain ⟨w3, hmk, hbx, hE, hs⟩ := make_bytes w2 8193 (by omega) 8193 rfl
      have HV3 := Lib.hid (hbx.bytes' (n := 8193) List.length_replicate.symm)
      replace HG := Lib.hid (HG.out.ext hE)
      clear hE hbx hs
      go_wp2_with fail
      refine (put_any w3 b (bN n n) 0 0 _ (List.replicate 8193 0) HG.out.net (by unfold I64; omega) (by unfold I64; omega) HV3.out (by rw [List.length_replicate]; omega) (by show n ≤ _; omega) (bN n n) 0 3 3 0 (bput3 n n _ List.length_replicate) rfl rfl).mono ?_
      rintro e w4 ⟨F', M', rfl, hn2, hs⟩
      replace HG := Lib.hid (HG.out.step hn2 hs)
      clear hn2 hs HV3 hmk
      go_wp2_with fail
      refine (drop_any w4 b (bN n n) (-1) (-1) 0 HG.out.net (by unfold I64; omega) ⟨64, n, n, (bL n).drop 1, []⟩ 0 0 0 0 (bdrop n n (by omega)) rfl rfl).mono ?_
      rintro e w5 ⟨F', M', rfl, hn2, hs⟩
      replace HG := Lib.hid (HG.out.step hn2 hs)
      clear hn2 hs
      obtain ⟨w6, hmk, hbx, hE, hs⟩ := make_bytes w5 8192 (by omega) 8192 rfl
      have HV3 := Lib.hid (hbx.bytes' (n := 8192) List.length_replicate.symm)
      replace HG := Lib.hid (HG.out.ext hE)
      clear hE hbx hs
      go_wp2_with fail
      refine (put_any w6 b ⟨64, n, n, (bL n).drop 1, []⟩ 0 0 _ (List.replicate 8192 0) HG.out.net (by unfold I64; omega) (by unfold I64; omega) HV3.out (by rw [List.length_replicate]; omega) (by show n ≤ _; omega) ⟨64, n, n + 1, (bL n).drop 1 ++ [⟨n, 0, 0, List.replicate 8192 0⟩], []⟩ n 0 0 n (bput0 n _ List.length_replicate (by omega)) rfl rfl).mono ?_
      rintro e w7 ⟨F', M', rfl, hn2, hs⟩
      replace HG := Lib.hid (HG.out.step hn2 hs)
      clear hn2 hs HV3 hmk
      have hnn : ((n : Int) == (n : Int)) = true := by simp
      go_wp2_with fail
      refine (num_any _ _).mono ?_
      rintro e w' ⟨rfl, rfl⟩
      go_wp2_with fail
      refine (num_any _ _).mono ?_
      rintro e w' ⟨rfl, rfl⟩
      go_wp2_with fail
      refine (num_any _ _).mono ?_
      rintro e w' ⟨rfl, rfl⟩
      go_wp2_with fail
      refine (num_any _ _).mono ?_
      rintro e w' ⟨rfl, rfl⟩
      go_wp2_with fail
      refine (num_any _ _).mono ?_
      rintro e w' ⟨rfl, rfl⟩
      go_wp2_with fail
      refine (len_any w7 b _ (-1) (-1) HG.out.net n n (by rw [NA.len_all]; show ((bL n).drop 1 ++ [_]).length = n; rw [List.length_append, List.length_drop, bL_len]; simp; omega) rfl).mono ?_
      rintro e w8 ⟨rfl, hE⟩
      replace HG := Lib.hid (HG.out.ext hE)
      clear hE
      go_wp2_with fail
      refine (works_any _).mono ?_
      rintro e w9 ⟨rfl, hE⟩
      replace HG := Lib.hid (HG.out.ext hE)
      clear hE
      go_wp2_with fail
      go_ret
      exact ⟨rfl, HG.out.E⟩
end Go.Proofs.Ytdiogipdcpiffaa
