/- Texts Bytes, one behind the other. Conditions: as each says. -/
import Derived.Test.YtoadjbgpfihoiaaGreatDoorPlA
set_option linter.unusedVariables false
set_option linter.unusedSimpArgs false
set_option maxHeartbeats 8000000
set_option maxRecDepth 100000
namespace Go.Proofs.YtoadjbgpfihoiaaGreatDoor
open Go.RowKit
theorem grow_any (n : Nat) (w : World) (hn : n ≤ 70368744177664) :
 Calls Tryz.prog 182 #[.slice none 0 0, .int .i64 (n : Int)] w fun e w' =>
  ∃ v', e = .returned v' ∧ w'.ownsRow w.heap.size 5 1 v' 0 [] ∧ Ext w w' := by
 obtain ⟨i0, hi, hz0, hz1, hz2⟩ := info_parts infoU8; rcases Nat.eq_zero_or_pos n with h0 | h0
 · subst h0
   go_enter Tryz.func182, Tryz.ntmps182
   go_wp2
   go_ret; exact ⟨_, rfl, World.ownsRow_nil _ _ _ _, Keeps.refl _ _⟩
 · obtain ⟨cap, w', hr, ho, hg, hc⟩ := run_append_zeros (P := Tryz.prog) w 27 3 27 5 i0 _ Tryz.underlying27 Tryz.underlying3 hi hz0 hz1 rfl hz2 n h0 hn
   have hc0 : (cap = 0) = False := by simp; omega
   have H : Hid (w'.ownsRow w.heap.size 5 1 (.slice (some ⟨w.heap.size, 0, none⟩) 0 cap) 0 []) := ho; have HG : Hid (w.grownBy w' none) := hg; clear ho hg; go_enter Tryz.func182, Tryz.ntmps182
   go_wp2_with (at_builtin; refine wpList_append_ran rfl _ _ hr rfl rfl rfl ?_); go_ret; exact ⟨_, rfl, H.out, Keeps.grown (Keeps.refl _ _) HG.out (fun k e => by cases e)⟩
def sumLen (ls : List (List UInt8)) : Nat := (ls.map List.length).sum
theorem sumLen_take_succ (ls : List (List UInt8)) (k : Nat) (h : k < ls.length) : sumLen (ls.take (k + 1)) = sumLen (ls.take k) + ls[k].length := by
 unfold sumLen; rw [List.take_succ_eq_append_getElem h, List.map_append, List.sum_append]; simp
theorem sumLen_take_le (ls : List (List UInt8)) (k : Nat) : sumLen (ls.take k) ≤ sumLen ls := by
 conv => rhs; rw [← List.take_append_drop k ls]
 unfold sumLen; rw [List.map_append, List.sum_append]; omega
theorem flat_take_succ (ls : List (List UInt8)) (k : Nat) (h : k < ls.length) : (ls.take (k + 1)).flatten = (ls.take k).flatten ++ ls[k] := by
 rw [List.take_succ_eq_append_getElem h, List.flatten_append]; simp
set_option maxHeartbeats 1000000 in
theorem concat_some (A : Nat → Prop) (b o n c : Nat) (ls : List (List UInt8)) (w : World) (hn : n = ls.length) (hnc : n ≤ 70368744177664) (hs : sumLen ls ≤ 70368744177664)
 (hc : ∀ i (h : i < ls.length), BytesAt w A b (o + i) ls[i]) :
 Calls Tryz.prog 122 #[.slice (some ⟨b, o, none⟩) n c] w fun e w' =>
  ∃ v', e = .returned v' ∧ Bytes w' (fun k => w.heap.size ≤ k ∧ k < w'.heap.size) v' ls.flatten ∧ Ext w w' ∧ Wr w' v' := by
 obtain ⟨i0, hi, hz0, hz1, hz2⟩ := info_parts infoU8; have HC : Hid (∀ i (h : i < ls.length), BytesAt w A b (o + i) ls[i]) := hc; clear hc; have HN : Hid (n = ls.length) := hn; clear hn; go_enter Tryz.func122, Tryz.ntmps122
 go_wp2_with fail; go_loop [3, 11] (fun t i => ∃ k : Nat, k ≤ n ∧ i = .int .i64 k ∧ t = .int .i64 (sumLen (ls.take k) : Nat)) (fun _ i => n - (intOf i).toNat)
 case atStart => exact ⟨0, Nat.zero_le _, rfl, by simp [sumLen]⟩
 case round =>
  obtain ⟨k, hk, rfl, rfl⟩ := hrel; by_cases hlt : k < n
  · have hk' : k < ls.length := by have := HN.out; omega
    obtain ⟨v, hv1, hv2⟩ := HC.out k hk'; obtain ⟨a1, c1, rfl⟩ := hv2.len; have h1 := sumLen_take_succ ls k hk'; have h2 := sumLen_take_le ls (k + 1); have h3 : sumLen (ls.take k) + ls[k].length ≤ 70368744177664 := by omega
    have H1 : Hid (sumLen (ls.take (k + 1)) = sumLen (ls.take k) + ls[k].length) := h1; clear h1 h2 hv2; go_wp2_with fail
    all_goals
     go_round
     case rel => exact ⟨k + 1, by omega, by go_num, by rw [H1.out]; simp⟩
     case measure => simp [intOf]; omega
  · obtain rfl : n = k := by omega
    have H3 : Hid (sumLen (ls.take n) = sumLen ls) := by show _ = _; rw [List.take_of_length_le (by have := HN.out; omega)]
    go_wp2_with fail; rw [H3.out]; refine (grow_any _ _ (by omega)).mono ?_; rintro e w1 ⟨v', rfl, ho, hk1⟩; have HO : Hid (w1.ownsRow w.heap.size 5 1 v' 0 []) := ho; have HK : Hid (Ext w w1) := hk1; clear ho hk1; go_wp2_with fail; go_loopw [6, 27] (fun t i wr => ∃ k : Nat, k ≤ n ∧ i = .int .i64 k ∧ wr.ownsRow w.heap.size 5 1 t (sumLen (ls.take k)) ((ls.take k).flatten.map byV) ∧ Ext w wr) (fun _ i _ => n - (intOf i).toNat)
    case atStart => exact ⟨0, Nat.zero_le _, rfl, by simpa [sumLen] using HO.out, HK.out⟩
    case round =>
     obtain ⟨k, hk, rfl, ho, he⟩ := hrel; by_cases hlt : k < n
     · have hk' : k < ls.length := by have := HN.out; omega
       obtain ⟨x, hx1, hx2⟩ := HC.out k hk'; have hx1' := he.cell hx1; have h1 := sumLen_take_succ ls k hk'; have h2 := sumLen_take_le ls (k + 1); obtain ⟨v2, w2, hr, ho2, hg2, _⟩ := run_append_src (P := Tryz.prog) wr w.heap.size 27 27 5 i0 _ 1 1 Tryz.underlying27 hi hz0 hz1 hz2 rfl (by decide) _ _ _ ho x _ _ (hx2.ext he).src (by simp) (byV_one _) (by simp [maxLen]; omega) (by omega) he.size
       have H1 : Hid (w2.ownsRow w.heap.size 5 1 v2 (sumLen (ls.take (k + 1))) ((ls.take (k + 1)).flatten.map byV)) := by
        show World.ownsRow _ _ _ _ _ _ _
        rw [h1, flat_take_succ ls k hk', List.map_append]; exact ho2
       have H2 : Hid (Ext w w2) := he.grown hg2 (fun q e => .inr (ho.lt q e).1); clear h1 h2 ho2 hg2 ho he hx2 hx1; go_wp2_with (at_builtin; refine wpList_append_ran rfl _ _ hr rfl rfl rfl ?_); go_roundw
       case rel => exact ⟨k + 1, by omega, by go_num, H1.out, H2.out⟩
       case measure => simp [intOf]; omega
     · obtain rfl : n = k := by omega
       have HO' : Hid (wr.ownsRow w.heap.size 5 1 u6 (sumLen (ls.take n)) ((ls.take n).flatten.map byV)) := ho; have HK' : Hid (Ext w wr) := he; clear ho he; go_wp2_with fail; go_ret; refine ⟨_, rfl, ?_, HK'.out, Wr.of_owns HO'.out⟩; have h := HO'.out; rw [List.take_of_length_le (by have := HN.out; omega)] at h; exact Bytes.of_owns h
end Go.Proofs.YtoadjbgpfihoiaaGreatDoor
