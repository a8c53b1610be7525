/- Texts SealB, Wire, WireB, one behind the other. Conditions: as each says. -/
import Derived.Test.YtoadjbgpfihoiaaGreatDoorPlJ
set_option linter.unusedVariables false
set_option linter.unusedSimpArgs false
set_option maxHeartbeats 8000000
set_option maxRecDepth 100000
namespace Go.Proofs.YtoadjbgpfihoiaaGreatDoor
open Go.RowKit
theorem Bytes.new {w w' : World} {v : Value} {l : List UInt8} (h : Bytes w' (New w w') v l) : ∀ k, New w w' k → k < w'.heap.size := fun k hk => hk.2
theorem box_bytes {w : World} {b : Nat} {l : List UInt8} (h : Box w b 5 (l.map byV)) (c : Nat) (hc : l.length ≤ c) : Bytes w (fun k => k = b) (.slice (some ⟨b, 0, none⟩) l.length c) l :=
 .inr ⟨b, 0, c, rfl, hc, rfl, fun i hi => by
  have := h.reads.1 (0 + i * 1); unfold ByteAt; rw [this, Nat.zero_add, Nat.mul_one, List.getElem?_map, List.getElem?_eq_getElem hi]
  rfl⟩
theorem seal_any' {A : Nat → Prop} (w : World) (a : Option Addr) (c : Nat) (l : List UInt8) (h : Bytes w A (.slice a l.length c) l) (hA : ∀ k, A k → k < w.heap.size) (hl : l.length ≤ 1099511627776) :
 Calls Tryz.prog 215 #[.slice a l.length c] w fun e w' => ∃ v', e = .returned v' ∧ Bytes w' (New w w') v' (sealL l) ∧ Ext w w' := by
 have HM := Hd (Mem.start0 w); have HB := Hd h; have HA := Hd hA; have HLL := Hd hl; clear h hA hl; go_enter Tryz.func215, Tryz.ntmps215
 go_wp2_with fail; refine nxt HM fun w1 M => ?_
 replace HM := M; clear M; obtain ⟨Ahq, hq⟩ := HM.out.get (r := cellsR w.heap.size 27 [.slice a l.length c]) pk; have hsz := HM.out.keepsTo.size; refine (sum_any w1 w.heap.size _ l (by have := HLL.out; omega) hq.2 (HB.out.ext HM.out.extTo) (fun k hk => by have := HA.out k hk; omega)).mono ?_; rintro e w2 ⟨rfl, hE⟩; replace HM := Hd (HM.out.ext hE); clear hE hq hsz; go_wp2_with fail; refine nxt HM fun w3 M => ?_
 replace HM := M; clear M; refine (low_any w3 _ (crcS_lt l)).mono ?_; rintro e w4 ⟨rfl, hb, hE⟩; have HX := Hd (box_bytes (l := low4 (crcS l)) hb 4 (Nat.le_refl _)); replace HM := Hd (HM.out.new (r := cellsR w3.heap.size 5 ((low4 (crcS l)).map byV)) (G := fun k => k = w3.heap.size) hE ⟨fun _ => Iff.rfl, hb⟩ (fun k hk => by omega)); obtain ⟨s, hs⟩ : ∃ s, w3.heap.size = s := ⟨_, rfl⟩; have HSS := Hd (show s < w4.heap.size by rw [← hs]; exact hb.lt); clear hE hb; rw [hs] at HM HX ⊢; clear hs; go_wp2_with fail; have hE5 : Ext w4 (w4.alloc (.cells #[.slice a l.length c, .slice (some ⟨s, 0, none⟩) 4 4] 27)) := (Keeps.refl _ _).alloc _; have hbx := Box.new w4 27 [.slice a l.length c, .slice (some ⟨s, 0, none⟩) 4 4]; have hEw := HM.out.extTo; have HE := Hd (hEw.ext hE5); have hBv := (HB.out.ext hEw).ext hE5; have hBx := HX.out.ext hE5; have hA' := HA.out
 refine (concat_some (fun k => A k ∨ k = s) w4.heap.size 0 2 2 [l, low4 (crcS l)] (w4.alloc (.cells #[.slice a l.length c, .slice (some ⟨s, 0, none⟩) 4 4] 27)) rfl (by decide)
  (by have := HLL.out; simp only [sumLen, List.map_cons, List.map_nil, List.sum_cons, List.sum_nil, low4_len]; omega) ?_).mono ?_
 · intro i hi
   have h2 : i < 2 := hi; obtain rfl | rfl : i = 0 ∨ i = 1 := by omega
   · exact ⟨_, by rw [hbx.reads.1]; rfl, hBv.mono fun _ h => .inl h⟩
   · exact ⟨_, by rw [hbx.reads.1]; rfl, hBx.mono fun _ h => .inr h⟩
 · rintro e w6 ⟨v', rfl, hb6, hE6, hw6⟩
   have HE6 := Hd (HE.out.ext hE6)
   have HB6 := Hd (show Bytes w6 (New w w6) v' (sealL l) from by
    have : [l, low4 (crcS l)].flatten = sealL l := by simp [sealL]
    rw [← this]; exact hb6.mono fun k hk => ⟨by have := HE.out.size; have := hk.1; omega, hk.2⟩)
   clear hb6 hE6 hw6 hbx hE5 hEw hBv hBx hA'; go_wp2_with fail; go_ret; exact ⟨_, rfl, HB6.out, HE6.out⟩
theorem seal_any {A : Nat → Prop} (w : World) (v : Value) (l : List UInt8) (h : Bytes w A v l) (hA : ∀ k, A k → k < w.heap.size) (hl : l.length ≤ 1099511627776) :
 Calls Tryz.prog 215 #[v] w fun e w' => ∃ v', e = .returned v' ∧ Bytes w' (New w w') v' (sealL l) ∧ Ext w w' := by
 obtain ⟨a, c, rfl⟩ := h.len; exact seal_any' w a c l h hA hl
theorem Bytes.cap {w : World} {A : Nat → Prop} {a : Option Addr} {c : Nat} {l : List UInt8} (h : Bytes w A (.slice a l.length c) l) : l.length ≤ c := by
 rcases h with ⟨a', h1, h2⟩ | ⟨b, o, c', h1, h2, h3⟩
 · subst h2; exact Nat.zero_le _
 · cases h1; exact h2
def openE (w w' : World) (l : List UInt8) (v : Value) (no : Int) : Prop := match openL l with
 | some m => ∃ b, v = .tuple #[b, .int .i64 0] ∧ Bytes w' (New w w') b m
 | none => v = .tuple #[.slice none 0 0, .int .i64 no]
theorem open_any {A : Nat → Prop} (w : World) (v : Value) (l : List UInt8) (h : Bytes w A v l) (hA : ∀ k, A k → k < w.heap.size) (hl : l.length ≤ 1099511627776) :
 Calls Tryz.prog 230 #[v] w fun e w' => (∃ r, e = .returned r ∧ openE w w' l r 110) ∧ Ext w w' := by
 obtain ⟨a, c, rfl⟩ := h.len; have hc := h.cap; have HM := Hd (Mem.start0 w); have HB := Hd h; have HA := Hd hA; have hw : wrap64 ((l.length : Int) - 4) = (l.length : Int) - 4 := IntWalk.wrap64_in _ (by omega); by_cases h4 : l.length < 4
 · have hq : openL l = none := by unfold openL; rw [if_pos h4]
   have g1 : (l.length : Int) - 4 < 0 := by omega
   unfold openE; rw [hq]; clear h hA hq; go_enter Tryz.func230, Tryz.ntmps230
   go_wp2_with fail; have hE0 : Keeps NoB w w.drew := (Keeps.refl _ _).drew; refine rgE [(0, 0), (0, 1), (0, 2), (0, 3), (0, 4), (0, 5), (0, 9), (0, 10), (0, 11)] [] [6, 7, 8, 12, 13, 14] [6, 7, 8, 12, 13, 14] ?_; simp only [planL, nL]; iterate 3 (first | (refine pM _ rfl rfl ?_; simp only [nP, nE]) | (refine pR (by rfl) (fun W => by go_simp <;> with_reducible rfl) ?_; simp only [nP]))
   iterate 2 ((refine plan_skip rfl ?_; simp only [nP]))
   refine plan_skip rfl ?_; simp only [nP]; iterate 2 ((refine plan_skip rfl ?_; simp only [nP]))
   refine plan_skip rfl ?_; simp only [nP]; refine plan_nil ?_; simp only [tailL, List.filterMap_cons, List.filterMap_nil, nL]; change wpList _ _ _ (_ :: _ :: _ :: _ :: _ :: _ :: []) _ _; go_wp2_with fail; go_ret2
   exact ⟨⟨_, rfl, rfl⟩, HM.out.to.extTo⟩
 · have g1 : ¬ (l.length : Int) - 4 < 0 := by omega
   obtain ⟨n, hn⟩ : ∃ n, l.length - 4 = n := ⟨_, rfl⟩; have hn1 : (l.length : Int) - 4 = n := by omega
   rw [hn1] at hw g1; have hsh := fun W => slice_h W a l.length c n (by omega)
   have hsl := fun W => slice_l W a l.length c n (by omega)
   have hb1 := h.part 0 n (by omega) (by omega); have hb2 := h.part n l.length (by omega) (Nat.le_refl _); rw [List.take_length] at hb2; rw [List.drop_zero] at hb1; obtain ⟨a1, c1, e1⟩ := part_len (a := a) (i := 0) (j := n) (c := c) (s := 1); obtain ⟨a2, c2, e2⟩ := part_len (a := a) (i := n) (j := l.length) (c := c) (s := 1); rw [e1, Nat.sub_zero] at hsh hb1; rw [e2] at hsl hb2; have HB1 := Hd hb1; have HB2 := Hd hb2; have HN := Hd hn; have HLL := Hd hl; have hn4 : 4 ≤ l.length := by omega
   have HN4 := Hd hn4; clear h hA hb1 hb2 e1 e2 hn h4 hl hn4; go_enter Tryz.func230, Tryz.ntmps230
   go_wp2_with fail; by_cases hd : low4 (crcS (l.take n)) = l.drop n
   · have HD := Hd hd
     have hdt := decide_eq_true hd; clear hd; have hE0 : Keeps NoB w w.drew := (Keeps.refl _ _).drew; refine rgE [(0, 0), (0, 1), (0, 2), (0, 3), (0, 4), (0, 5), (0, 9), (0, 10), (0, 11)] [] [6, 7, 8, 12, 13, 14] [6, 7, 8, 12, 13, 14] ?_; simp only [planL, nL]; iterate 3 (first | (refine pM _ rfl rfl ?_; simp only [nP, nE]) | (refine pR (by rfl) (fun W => by go_simp <;> with_reducible rfl) ?_; simp only [nP]))
     iterate 2 ((refine pM _ rfl rfl ?_; simp only [nP, nE]))
     refine pR rfl (fun W => by go_simp <;> with_reducible rfl) ?_; simp only [nP]; iterate 2 ((refine pM _ rfl rfl ?_; simp only [nP, nE]))
     refine pR rfl (fun W => by go_simp <;> with_reducible rfl) ?_; simp only [nP]; refine plan_nil ?_; simp only [tailL, List.filterMap_cons, List.filterMap_nil, nL]; change wpList _ _ _ (_ :: _ :: _ :: _ :: _ :: _ :: []) _ _; go_wp2_with fail; refine (sum_any _ _ _ (l.take n) (by have := HLL.out; rw [List.length_take]; omega) (Box.new _ _ _) (HB1.out.ext (hE0.alloc _)) (fun k hk => Nat.lt_of_lt_of_le (HA.out k hk) (hE0.alloc _).size)).mono ?_; rintro e w2 ⟨rfl, hE2⟩; have hE02 := (hE0.alloc _).ext hE2; clear hE2; go_wp2_with fail; refine (low_any _ _ (crcS_lt _)).mono ?_; rintro e w3 ⟨rfl, hb, hE3⟩; have hE03 := hE02.ext hE3; have hb3 := box_bytes (l := low4 (crcS (l.take n))) hb 4 (Nat.le_refl _); clear hE3 hE02 hb; go_wp2_with fail; refine (equal_bytes _ _ _ (low4 (crcS (l.take n))) (l.drop n) hb3 (HB2.out.ext hE03) (by rw [low4_len]; decide)).mono ?_; rintro e w4 ⟨rfl, hE4⟩; rw [hdt]; have hE04 := hE03.ext hE4; clear hE4 hE03 hb3; replace HM := Hd (HM.out.ext hE04); clear hE04 hE0 hdt; go_wp2_with fail; refine nxt HM fun w1 M => ?_
     replace HM := M; clear M; have hl1 : (l.take n).length = n := by rw [List.length_take]; have := HN.out; omega
     refine (clone_bytes (A := A) w1 _ (l.take n) ?_ ?_).mono ?_
     · have := HB1.out.ext HM.out.extTo
       exact this
     · have := HLL.out; have := HN.out; omega
     rintro e w2 ⟨v', rfl, hw, hE⟩; have hE1 := HM.out.extTo; have HQ := Hd (hE1.ext hE); have HV := Hd (show Bytes w2 (New w w2) v' (l.take n) from hw.bytes.mono fun k hk => ⟨by have := hE1.size; have := hk.1; omega, hk.2⟩); clear hw hE hE1; go_wp2_with fail; go_ret2
     refine ⟨⟨_, rfl, ?_⟩, HQ.out⟩
     have hq : openL l = some (l.take n) := by
      unfold openL; rw [if_neg (by have := HN4.out; omega), HN.out, if_pos HD.out]
     unfold openE; rw [hq]; exact ⟨_, rfl, HV.out⟩
   · have HD := Hd hd
     have hdt := decide_eq_false hd; clear hd; have hE0 : Keeps NoB w w.drew := (Keeps.refl _ _).drew; refine rgE [(0, 0), (0, 1), (0, 2), (0, 3), (0, 4), (0, 5), (0, 9), (0, 10), (0, 11)] [] [6, 7, 8, 12, 13, 14] [6, 7, 8, 12, 13, 14] ?_; simp only [planL, nL]; iterate 3 (first | (refine pM _ rfl rfl ?_; simp only [nP, nE]) | (refine pR (by rfl) (fun W => by go_simp <;> with_reducible rfl) ?_; simp only [nP]))
     iterate 2 ((refine pM _ rfl rfl ?_; simp only [nP, nE]))
     refine pR rfl (fun W => by go_simp <;> with_reducible rfl) ?_; simp only [nP]; iterate 2 ((refine pM _ rfl rfl ?_; simp only [nP, nE]))
     refine pR rfl (fun W => by go_simp <;> with_reducible rfl) ?_; simp only [nP]; refine plan_nil ?_; simp only [tailL, List.filterMap_cons, List.filterMap_nil, nL]; change wpList _ _ _ (_ :: _ :: _ :: _ :: _ :: _ :: []) _ _; go_wp2_with fail; refine (sum_any _ _ _ (l.take n) (by have := HLL.out; rw [List.length_take]; omega) (Box.new _ _ _) (HB1.out.ext (hE0.alloc _)) (fun k hk => Nat.lt_of_lt_of_le (HA.out k hk) (hE0.alloc _).size)).mono ?_; rintro e w2 ⟨rfl, hE2⟩; have hE02 := (hE0.alloc _).ext hE2; clear hE2; go_wp2_with fail; refine (low_any _ _ (crcS_lt _)).mono ?_; rintro e w3 ⟨rfl, hb, hE3⟩; have hE03 := hE02.ext hE3; have hb3 := box_bytes (l := low4 (crcS (l.take n))) hb 4 (Nat.le_refl _); clear hE3 hE02 hb; go_wp2_with fail; refine (equal_bytes _ _ _ (low4 (crcS (l.take n))) (l.drop n) hb3 (HB2.out.ext hE03) (by rw [low4_len]; decide)).mono ?_; rintro e w4 ⟨rfl, hE4⟩; rw [hdt]; have hE04 := hE03.ext hE4; clear hE4 hE03 hb3; replace HM := Hd (HM.out.ext hE04); clear hE04 hE0 hdt; go_wp2_with fail; go_ret2
     refine ⟨⟨_, rfl, ?_⟩, HM.out.extTo⟩
     have hq : openL l = none := by
      unfold openL; rw [if_neg (by have := HN4.out; omega), HN.out, if_neg HD.out]
     unfold openE; rw [hq]; rfl
theorem rtimes_any (w : World) (n : Nat) (hn : n < 4294967296) : Calls Tryz.prog 299 #[wV n] w fun e w' => e = .returned (wV (tmN n)) ∧ w' = w := by
 have HN := Hd hn; unfold wV; rcases Nat.mod_two_eq_zero_or_one n with h2 | h2
 · have h3 : (n : Int) % 2 = 0 := by omega
   have ht : tmN n = n / 2 := by unfold tmN; rw [if_neg (by omega)]
   rw [ht]; clear h2 ht; go_enter Tryz.func299, Tryz.ntmps299
   go_wp2_with fail; go_ret; exact ⟨rfl, rfl⟩
 · have h3 : (n : Int) % 2 = 1 := by omega
   have hx : bits .xor .u32 ((n : Int) / 2) 3988292384 = ((n / 2 ^^^ polyN : Nat) : Int) := xor_u32 (a := n / 2) (b := polyN) (by have := HN.out; omega) (by decide); have ht : tmN n = n / 2 ^^^ polyN := by unfold tmN; rw [if_pos h2]
   rw [← ht] at hx; clear h2 ht; go_enter Tryz.func299, Tryz.ntmps299
   go_wp2_with fail; go_ret; exact ⟨rfl, rfl⟩
theorem rrun_any {A : Nat → Prop} (w : World) (n : Nat) (v : Value) (l : List UInt8) (hl : l.length ≤ 70368744177664) (hn : n < 4294967296) (h : Bytes w A v l) :
 Calls Tryz.prog 283 #[wV n, v] w fun e w' => e = .returned (wV (crcL n l)) ∧ w' = w := by
 obtain ⟨a, c, rfl⟩ := h.len; have HB := Hd h; have HN := Hd hn; clear h hn; unfold wV; go_enter Tryz.func283, Tryz.ntmps283
 go_wp2_with fail; go_loopw [0, 5] (fun x i wr => ∃ j : Nat, j ≤ l.length ∧ i = .int .i64 j ∧ x = wV (crcL n (l.take j)) ∧ wr = w) (fun _ i _ => l.length - (intOf i).toNat)
 case atStart => exact ⟨0, Nat.zero_le _, rfl, rfl, rfl⟩
 case round =>
  obtain ⟨j, hj, rfl, rfl, rfl⟩ := hrel; by_cases hlt : j < l.length
  · have g1 : (j : Int) < l.length := by omega
    have g2 : ¬ (j : Int) < 0 := by omega
    obtain ⟨g, o, rfl, -, hg, hc⟩ := HB.out.at j hlt; have HS := Hd (show crcL n (l.take (j + 1)) = tmK 8 (crcL n (l.take j) ^^^ l[j].toNat) from crcL_take hlt); obtain ⟨x, hx⟩ : ∃ x, l[j] = x := ⟨_, rfl⟩; rw [hx] at hc HS; clear hx; obtain ⟨m, hm⟩ : ∃ m, crcL n (l.take j) = m := ⟨_, rfl⟩; have hml : m < 4294967296 := by rw [← hm]; exact crcL_lt HN.out _
    rw [hm] at HS ⊢; clear hm; have hcx := x.toNat_lt; have hw : IntKind.u32.wrap (x.toNat : Int) = (x.toNat : Int) := by simp [IntKind.wrap, IntKind.bits, IntKind.signed]; omega
    have hx := xor_u32 (a := m) (b := x.toNat) hml (by omega); obtain ⟨y, hy⟩ : ∃ y, m ^^^ x.toNat = y := ⟨_, rfl⟩; have HY := Hd (show y < 4294967296 by rw [← hy]; exact Nat.xor_lt_two_pow (n := 32) hml (by omega)); rw [hy] at hx HS; clear hy; unfold wV; go_wp2_with fail; refine wp_loop_rounds 9 ?_; rw [rounds_succ]; go_wp2_with fail; refine (rtimes_any _ (tmK 0 y) (tmK_lt HY.out 0)).mono ?_; rintro e w2 ⟨rfl, rfl⟩; rw [show tmN (tmK 0 y) = tmK (0 + 1) y from rfl]; go_wp2_with fail; rw [rounds_succ]; go_wp2_with fail; refine (rtimes_any _ (tmK 1 y) (tmK_lt HY.out 1)).mono ?_; rintro e w2 ⟨rfl, rfl⟩; rw [show tmN (tmK 1 y) = tmK (1 + 1) y from rfl]; go_wp2_with fail; rw [rounds_succ]; go_wp2_with fail; refine (rtimes_any _ (tmK 2 y) (tmK_lt HY.out 2)).mono ?_; rintro e w2 ⟨rfl, rfl⟩; rw [show tmN (tmK 2 y) = tmK (2 + 1) y from rfl]; go_wp2_with fail; rw [rounds_succ]; go_wp2_with fail; refine (rtimes_any _ (tmK 3 y) (tmK_lt HY.out 3)).mono ?_; rintro e w2 ⟨rfl, rfl⟩; rw [show tmN (tmK 3 y) = tmK (3 + 1) y from rfl]; go_wp2_with fail; rw [rounds_succ]; go_wp2_with fail; refine (rtimes_any _ (tmK 4 y) (tmK_lt HY.out 4)).mono ?_; rintro e w2 ⟨rfl, rfl⟩; rw [show tmN (tmK 4 y) = tmK (4 + 1) y from rfl]; go_wp2_with fail; rw [rounds_succ]; go_wp2_with fail; refine (rtimes_any _ (tmK 5 y) (tmK_lt HY.out 5)).mono ?_; rintro e w2 ⟨rfl, rfl⟩; rw [show tmN (tmK 5 y) = tmK (5 + 1) y from rfl]; go_wp2_with fail; rw [rounds_succ]; go_wp2_with fail; refine (rtimes_any _ (tmK 6 y) (tmK_lt HY.out 6)).mono ?_; rintro e w2 ⟨rfl, rfl⟩; rw [show tmN (tmK 6 y) = tmK (6 + 1) y from rfl]; go_wp2_with fail; rw [rounds_succ]; go_wp2_with fail; refine (rtimes_any _ (tmK 7 y) (tmK_lt HY.out 7)).mono ?_; rintro e w2 ⟨rfl, rfl⟩; rw [show tmN (tmK 7 y) = tmK (7 + 1) y from rfl]; go_wp2_with fail; rw [rounds_succ]; go_wp2_with fail; go_roundw
    case rel => exact ⟨j + 1, by omega, by go_num, by rw [HS.out]; rfl, trivial⟩
    case measure => simp [intOf]; omega
  · obtain rfl : j = l.length := by omega
    rw [List.take_length]; go_wp2_with fail; go_ret; exact ⟨rfl, rfl⟩
theorem rsum_any {A : Nat → Prop} (w : World) (v : Value) (l : List UInt8) (hl : l.length ≤ 70368744177664) (h : Bytes w A v l) :
 Calls Tryz.prog 236 #[v] w fun e w' => e = .returned (wV (crcS l)) ∧ w' = w := by
 have HB := Hd h; have HLL := Hd hl; obtain ⟨a, c, rfl⟩ := h.len; clear h hl; go_enter Tryz.func236, Tryz.ntmps236
 go_wp2_with fail; refine (rrun_any w 4294967295 _ l HLL.out (by decide) HB.out).mono ?_; rintro e w' ⟨rfl, rfl⟩; have hlt : crcL 4294967295 l < 4294967296 := crcL_lt (by decide) l; have hs : crcS l = 4294967295 - crcL 4294967295 l := rfl; obtain ⟨m, hm⟩ : ∃ m, crcL 4294967295 l = m := ⟨_, rfl⟩; rw [hm] at hs hlt; have HS := Hd hs; have hw : IntKind.u32.wrap (4294967295 - (m : Int)) = ((4294967295 - m : Nat) : Int) := by simp [IntKind.wrap, IntKind.bits, IntKind.signed]; omega
 rw [hm]; clear hm hs; unfold wV; go_wp2_with fail; go_ret; rw [HS.out]; exact ⟨rfl, rfl⟩
theorem low4_cells' (n : Nat) (hn : n < 4294967296) : (low4 n).map byV = [.int .u8 ((n : Int) % 256), .int .u8 ((n : Int) / 256 % 256), .int .u8 ((n : Int) / 65536 % 256), .int .u8 ((n : Int) / 16777216)] := by
 rw [low4_cells, show (n : Int) / 16777216 % 256 = (n : Int) / 16777216 by omega]
theorem rseal_any {A : Nat → Prop} (w : World) (v : Value) (l : List UInt8) (hl : l.length ≤ 1099511627776) (h : Bytes w A v l) :
 Calls Tryz.prog 196 #[v] w fun e w' => ∃ v', e = .returned v' ∧ Upd NoB w w' (bytR v' (sealL l)) := by
 have HB := Hd h; have HLL := Hd hl; have HM := Hd (Mem.start0 w); obtain ⟨a, c, rfl⟩ := h.len; clear h hl; go_enter Tryz.func196, Tryz.ntmps196
 go_wp2_with fail; refine (rsum_any w _ l (by have := HLL.out; omega) HB.out).mono ?_; rintro e w' ⟨rfl, rfl⟩; have hlt := crcS_lt l; obtain ⟨m, hm⟩ : ∃ m, crcS l = m := ⟨_, rfl⟩; have HS := Hd hm; rw [hm] at hlt ⊢; have HL4 := Hd hlt; clear hm; unfold wV; go_wp2_with (at_builtin; refine standing ?_); refine nxt HM fun w1 M => ?_
 replace HM := M; clear M; replace HM := Hd HM.out.bytEmpty; obtain ⟨v9, w9, hr, hm⟩ := Mem.bytAdd 27 HM.out _ l (HB.out.ext HM.out.extTo) (by have := HLL.out; simp; omega); rw [List.nil_append] at hm; obtain ⟨a9, c9, rfl⟩ := hm.fact (fun A h => bytR.len h); replace HM := Hd hm; refine ⟨?_⟩; refine wpList_append_ran rfl _ _ hr rfl rfl rfl ?_; clear hr hm; go_wp2_with (at_builtin; refine standing ?_); refine nxt HM fun w2 M => ?_
 replace HM := M; clear M; rw [← low4_cells' m HL4.out] at HM; obtain ⟨Ahb, hb⟩ := HM.out.get (r := cellsR w9.heap.size 5 ((low4 m).map byV)) pk; replace HM := Hd (HM.out.pick (r := bytR (.slice a9 l.length c9) l) pk); obtain ⟨v8, w8, hr, hm⟩ := Mem.bytAdd 27 HM.out _ (low4 m) (box_bytes hb.2 4 (Nat.le_refl _)) (by have := HLL.out; rw [low4_len]; omega); replace HM := Hd hm; refine ⟨?_⟩; refine wpList_append_ran rfl _ _ hr rfl rfl rfl ?_; clear hr hm hb Ahb; go_wp2_with fail; go_ret; have hs : l ++ low4 m = sealL l := by unfold sealL; rw [HS.out]
 rw [hs] at HM; exact ⟨_, rfl, HM.out.upd⟩
theorem and127 (c : UInt8) : bits .and .u8 (c.toNat : Int) 127 = ((c.toNat % 128 : Nat) : Int) := by
 show IntKind.u8.wrap ((BitVec.ofInt 8 (c.toNat : Int) &&& BitVec.ofInt 8 ((127 : Nat) : Int)).toNat : Int) = _
 rw [BitVec.toNat_and, BitVec.ofInt_natCast, BitVec.ofInt_natCast, BitVec.toNat_ofNat, BitVec.toNat_ofNat]; have h := c.toNat_lt; rw [Nat.mod_eq_of_lt (show c.toNat < 2 ^ 8 by omega), show (127 % 2 ^ 8 : Nat) = 2 ^ 7 - 1 from rfl, Nat.and_two_pow_sub_one_eq_mod]; simp [IntKind.wrap, IntKind.bits, IntKind.signed]; omega
theorem or_i64 {N x k : Nat} (hN : N < 2 ^ k) (hx : N + x * 2 ^ k < 9223372036854775808) : bits .or .i64 (N : Int) ((x * 2 ^ k : Nat) : Int) = ((N + x * 2 ^ k : Nat) : Int) := by
 have h1 : N ||| x * 2 ^ k = N + x * 2 ^ k := by
  rw [Nat.or_comm, Nat.mul_comm, ← Nat.two_pow_add_eq_or_of_lt hN, Nat.add_comm]
 show IntKind.i64.wrap ((BitVec.ofInt 64 (N : Int) ||| BitVec.ofInt 64 ((x * 2 ^ k : Nat) : Int)).toNat : Int) = _
 rw [BitVec.toNat_or, BitVec.ofInt_natCast, BitVec.ofInt_natCast, BitVec.toNat_ofNat, BitVec.toNat_ofNat, Nat.mod_eq_of_lt (show N < 2 ^ 64 by omega), Nat.mod_eq_of_lt (show x * 2 ^ k < 2 ^ 64 by omega), h1]; exact IntWalk.i64_in _ (by omega)
theorem win64_any (w : World) (n a b : Int) : Calls Tryz.prog 213 #[.int .i64 n, .int .i64 a, .int .i64 b] w fun e w' => e = .returned (.bool (decide (a ≤ n ∧ n ≤ b))) ∧ w' = w := by
 by_cases h1 : a ≤ n
 · have e1 : decide (a ≤ n ∧ n ≤ b) = decide (n ≤ b) := by simp [h1]
   rw [e1]; clear e1; go_enter Tryz.func213, Tryz.ntmps213
   go_wp2_with fail; go_ret; exact ⟨rfl, rfl⟩
 · have e1 : decide (a ≤ n ∧ n ≤ b) = false := by simp [h1]
   rw [e1]; clear e1; go_enter Tryz.func213, Tryz.ntmps213
   go_wp2_with fail; go_ret; exact ⟨rfl, rfl⟩
theorem taken_any {A : Nat → Prop} (w : World) (v : Value) (l : List UInt8) (hl : l.length ≤ 70368744177664) (h : Bytes w A v l) :
 Calls Tryz.prog 229 #[v] w fun e w' => e = .returned (.tuple #[.int .i64 ((takeL l).1 : Int), .int .i64 (takeL l).2]) ∧ w' = w := by
 obtain ⟨a, c, rfl⟩ := h.len; have HB := Hd h; clear h; go_enter Tryz.func229, Tryz.ntmps229
 go_wp2_with fail; go_loopw [2, 8] (fun x i wr => ∃ j N : Nat, j ≤ l.length ∧ j ≤ 9 ∧ i = .int .i64 j ∧ x = .int .i64 N ∧ Hid (takeL l = takeG j N (l.drop j)) ∧ Hid (N < 128 ^ j) ∧ wr = w) (fun _ i _ => l.length - (intOf i).toNat)
 case atStart => exact ⟨0, 0, Nat.zero_le _, Nat.zero_le _, rfl, rfl, Hd rfl, Hd (by decide), rfl⟩
 case round =>
  obtain ⟨j, N, hj, hj9, rfl, rfl, HT, HP, rfl⟩ := hrel; by_cases hlt : j < l.length
  · have g1 : (j : Int) < l.length := by omega
    have g2 : ¬ (j : Int) < 0 := by omega
    obtain ⟨g, o, rfl, -, hg, hc⟩ := HB.out.at j hlt; replace HT := Hd (show takeL l = takeG j N (l[j] :: l.drop (j + 1)) by rw [HT.out, List.drop_eq_getElem_cons hlt]); obtain ⟨x, hx⟩ : ∃ x, l[j] = x := ⟨_, rfl⟩; rw [hx] at hc HT; clear hx; by_cases h9 : j = 9
    · subst h9
      rw [takeG_nine] at HT; go_wp2_with fail; go_ret2
      rw [HT.out]; exact ⟨rfl, rfl⟩
    · have h9' : ((j : Int) == 9) = false := by simpa using (fun e => h9 (by omega))
      have h8 : j ≤ 8 := by omega
      have hx7 := and127 x; obtain ⟨m, hm⟩ : ∃ m, x.toNat % 128 = m := ⟨_, rfl⟩; have hml : m < 128 := by omega
      rw [hm] at hx7; have h7j : wrap64 (7 * (j : Int)) = 7 * (j : Int) := IntWalk.wrap64_in _ (by omega); have hp : 2 ^ (7 * j) = 128 ^ j := by rw [Nat.pow_mul]
      have hb9 : 128 ^ j ≤ 128 ^ 8 := Nat.pow_le_pow_right (by decide) h8; have hmy : m * 128 ^ j ≤ 127 * 128 ^ 8 := Nat.mul_le_mul (by omega) hb9; have hyl : N + m * 128 ^ j < 9223372036854775808 := by have := HP.out; omega
      have hor : bits .or .i64 (N : Int) (wrap64 ((m : Int) * 2 ^ (7 * j))) = ((N + m * 128 ^ j : Nat) : Int) := by
       have e1 : (m : Int) * 2 ^ (7 * j) = ((m * 2 ^ (7 * j) : Nat) : Int) := by simp
       rw [e1, IntWalk.wrap64_in _ (by rw [hp]; omega), ← hp]; exact or_i64 (by rw [hp]; exact HP.out) (by rw [hp]; exact hyl)
      have HY := Hd (show N + m * 128 ^ j < 128 ^ (j + 1) by
       have h1 := HP.out; have h2 : m * 128 ^ j ≤ 127 * 128 ^ j := Nat.mul_le_mul_right _ (by omega); rw [Nat.pow_succ]; omega)
      rw [takeG_cons, if_neg h9, hm] at HT; obtain ⟨y, hy⟩ : ∃ y, N + m * 128 ^ j = y := ⟨_, rfl⟩; rw [hy] at hor HY HT hyl; have HYL := Hd hyl; clear hp hb9 hmy hyl hy HP; by_cases hx : x.toNat < 128
      case neg =>
       have hx' : ¬ (x.toNat : Int) < 128 := by omega
       rw [if_neg hx] at HT; go_wp2_with fail; go_roundw
       case rel => exact ⟨j + 1, y, by omega, by omega, by go_num, rfl, HT, HY, trivial⟩
       case measure => simp [intOf]; omega
      have hx' : (x.toNat : Int) < 128 := by omega
      rw [if_pos hx] at HT; clear hm; by_cases hz : 0 < j ∧ x.toNat = 0
      · have hz1 : (0 : Int) < (j : Int) := by omega
        have hz2 : (x.toNat : Int) = 0 := by omega
        rw [if_pos (.inl hz)] at HT; go_wp2_with fail; go_ret2
        rw [HT.out]; exact ⟨rfl, rfl⟩
      have HN1 := Hd hz; by_cases hj0 : 0 < j
      · have hz1 : (0 : Int) < (j : Int) := by omega
        have hz2 : ¬ (x.toNat : Int) = 0 := fun e => hz ⟨hj0, by omega⟩
        clear hz hj0; go_wp2_with fail; refine (win64_any wr y 0 4611686018427387904).mono ?_; rintro e w2 ⟨rfl, rfl⟩; by_cases ht : topN < y
        · have hd : decide ((0 : Int) ≤ (y : Int) ∧ (y : Int) ≤ 4611686018427387904) = false := decide_eq_false (by unfold topN at ht; omega)
          rw [hd]; rw [if_pos (.inr ht)] at HT; clear hd ht; go_wp2_with fail; go_ret2
          rw [HT.out]; exact ⟨rfl, rfl⟩
        · have hd : decide ((0 : Int) ≤ (y : Int) ∧ (y : Int) ≤ 4611686018427387904) = true := decide_eq_true (by unfold topN at ht; omega)
          rw [hd]; rw [if_neg (fun h => h.elim HN1.out ht)] at HT; clear hd ht; go_wp2_with fail; go_ret2
          rw [HT.out]; exact ⟨rfl, rfl⟩
      · have hz1 : ¬ (0 : Int) < (j : Int) := by omega
        clear hz hj0; go_wp2_with fail; refine (win64_any wr y 0 4611686018427387904).mono ?_; rintro e w2 ⟨rfl, rfl⟩; by_cases ht : topN < y
        · have hd : decide ((0 : Int) ≤ (y : Int) ∧ (y : Int) ≤ 4611686018427387904) = false := decide_eq_false (by unfold topN at ht; omega)
          rw [hd]; rw [if_pos (.inr ht)] at HT; clear hd ht; go_wp2_with fail; go_ret2
          rw [HT.out]; exact ⟨rfl, rfl⟩
        · have hd : decide ((0 : Int) ≤ (y : Int) ∧ (y : Int) ≤ 4611686018427387904) = true := decide_eq_true (by unfold topN at ht; omega)
          rw [hd]; rw [if_neg (fun h => h.elim HN1.out ht)] at HT; clear hd ht; go_wp2_with fail; go_ret2
          rw [HT.out]; exact ⟨rfl, rfl⟩
  · obtain rfl : j = l.length := by omega
    rw [List.drop_length] at HT; by_cases h9 : 9 ≤ l.length
    · have h9' : (9 : Int) ≤ (l.length : Int) := by omega
      replace HT := Hd (show takeL l = (0, -1) by rw [HT.out]; unfold takeG; rw [if_pos h9]); go_wp2_with fail; go_ret2
      rw [HT.out]; exact ⟨rfl, rfl⟩
    · have h9' : ¬ (9 : Int) ≤ (l.length : Int) := by omega
      replace HT := Hd (show takeL l = (0, 0) by rw [HT.out]; unfold takeG; rw [if_neg h9]); go_wp2_with fail; go_ret2
      rw [HT.out]; exact ⟨rfl, rfl⟩
theorem or128w (n : Nat) : bits .or .u8 ((n : Int) % 256) 128 = ((n % 128 + 128 : Nat) : Int) := by
 have h : ∀ m : Nat, m < 256 → bits .or .u8 (m : Int) 128 = ((m % 128 + 128 : Nat) : Int) := by decide
 have h2 := h (n % 256) (Nat.mod_lt _ (by decide)); rw [show n % 256 % 128 = n % 128 by omega] at h2; exact h2
theorem byV_of (n : Nat) (h : n < 256) : byV (UInt8.ofNat n) = .int .u8 (n : Int) := by unfold byV; rw [byte_ofNat h]
theorem one_byte {w : World} {b : Nat} {n : Nat} (h : Box w b 5 [.int .u8 (n : Int)]) (hn : n < 256) : Bytes w (fun k => k = b) (.slice (some ⟨b, 0, none⟩) 1 1) [UInt8.ofNat n] :=
 box_bytes (l := [UInt8.ofNat n]) (by rw [List.map_cons, List.map_nil, byV_of n hn]; exact h) 1 (by simp)
theorem wnum_any {A : Nat → Prop} (w : World) (v : Value) (l : List UInt8) (n : Nat) (hn : n < 9223372036854775808) (hl : l.length ≤ 1099511627776) (h : (bytR v l).p A w) :
 Calls Tryz.prog 214 #[v, .int .i64 (n : Int)] w fun e w' => ∃ v', e = .returned v' ∧ Upd A w w' (bytR v' (l ++ numL n)) := by
 have HM := Hd (Mem.start h); obtain ⟨a, c, rfl⟩ := bytR.len h; have HLL := Hd hl; have HNL := Hd hn; clear h hl hn; go_enter Tryz.func214, Tryz.ntmps214
 go_wp2_with fail; go_loopw [0, 1] (fun x i wr => ∃ (m : Nat) (l1 : List UInt8) (a1 : Option Addr) (c1 : Nat), i = .int .i64 m ∧ x = .slice a1 l1.length c1 ∧ Hid (m < 9223372036854775808) ∧ Hid (l ++ numL n = l1 ++ numL m) ∧ Hid (Mem A w wr [bytR (.slice a1 l1.length c1) l1])) (fun _ i _ => (intOf i).toNat)
 case atStart => exact ⟨n, l, a, c, rfl, rfl, HNL, Hd rfl, HM⟩
 case round =>
  clear HM; obtain ⟨m, l1, a1, c1, rfl, rfl, HML, HT, HM⟩ := hrel; have hlen := congrArg List.length HT.out; rw [List.length_append, List.length_append] at hlen; have hl2 := numL_len n; have hl3 := numL_len m; have HL1 := Hd (show l1.length ≤ 1099511627776 + 20 by have := HLL.out; omega); clear hlen hl2 hl3; by_cases hm : 128 ≤ m
  · have hm' : (128 : Int) ≤ (m : Int) := by omega
    have hor := or128w m; have hst := numL_step HML.out; rw [if_pos hm] at hst; have HT' := Hd (show l ++ numL n = (l1 ++ [UInt8.ofNat (m % 128 + 128)]) ++ numL (m / 128) by rw [HT.out, hst, List.append_assoc]; rfl); have HMM := Hd hm; clear hst hm HT; go_wp2_with (at_builtin; refine standing ?_); refine nxt HM fun w1 M => ?_
    replace HM := M; clear M; rw [show ((m : Int) % 128 + 128) = (((m % 128 + 128) : Nat) : Int) by first | rfl | omega] at HM; obtain ⟨Ahb, hb⟩ := HM.out.get (r := cellsR wr.heap.size 5 [.int .u8 (((m % 128 + 128) : Nat) : Int)]) pk; replace HM := Hd (HM.out.pick (r := bytR (.slice a1 l1.length c1) l1) pk); obtain ⟨v8, w8, hr, hm9⟩ := Mem.bytAdd 27 HM.out _ _ (one_byte hb.2 (by omega)) (by have := HL1.out; simp; omega); obtain ⟨l2, hl2⟩ : ∃ l2, l1 ++ [UInt8.ofNat (m % 128 + 128)] = l2 := ⟨_, rfl⟩; rw [hl2] at hm9; have HL2 := Hd hl2; obtain ⟨a8, c8, rfl⟩ := hm9.fact (fun A h => bytR.len h); replace HM := Hd hm9; refine ⟨?_⟩; refine wpList_append_ran rfl _ _ hr rfl rfl rfl ?_; clear hr hm9 hb Ahb hl2; replace HM := Hd (Mem.sub HM.out (L' := [bytR (.slice a8 l2.length c8) l2]) sbI); rw [HL2.out] at HT'; go_wp2_with fail; go_roundw
    case rel => exact ⟨m / 128, l2, a8, c8, by go_num, rfl, Hd (by have := HML.out; omega), HT', HM⟩
    case measure => simp [intOf]; omega
  · have hm' : ¬ (128 : Int) ≤ (m : Int) := by omega
    have hst := numL_step HML.out; rw [if_neg hm] at hst; have hb : (m : Int) % 256 = m := by omega
    have HMM := Hd (show m < 128 by omega); rw [hst] at HT; clear hst hm; go_wp2_with (at_builtin; refine standing ?_); refine nxt HM fun w1 M => ?_
    replace HM := M; clear M; rw [show (m : Int) = ((m : Nat) : Int) by first | rfl | omega] at HM; obtain ⟨Ahb, hb⟩ := HM.out.get (r := cellsR wr.heap.size 5 [.int .u8 ((m : Nat) : Int)]) pk; replace HM := Hd (HM.out.pick (r := bytR (.slice a1 l1.length c1) l1) pk); obtain ⟨v8, w8, hr, hm9⟩ := Mem.bytAdd 27 HM.out _ _ (one_byte hb.2 (by have := HMM.out; omega)) (by have := HL1.out; simp; omega); obtain ⟨l2, hl2⟩ : ∃ l2, l1 ++ [UInt8.ofNat m] = l2 := ⟨_, rfl⟩; rw [hl2] at hm9; have HL2 := Hd hl2; obtain ⟨a8, c8, rfl⟩ := hm9.fact (fun A h => bytR.len h); replace HM := Hd hm9; refine ⟨?_⟩; refine wpList_append_ran rfl _ _ hr rfl rfl rfl ?_; clear hr hm9 hb Ahb hl2; replace HM := Hd (Mem.sub HM.out (L' := [bytR (.slice a8 l2.length c8) l2]) sbI); go_wp2_with fail; go_ret; rw [HT.out]; have := HL2.out; exact ⟨_, rfl, by rw [show l1 ++ [UInt8.ofNat m] = l2 from this]; exact HM.out.upd⟩
theorem writer_none {A : Nat → Prop} (w : World) (b : Nat) (v : Value) (hb : (cellsR b 291 [v, .bool true]).p A w) :
 Calls Tryz.prog 210 #[.pointer (some ⟨b, 0, none⟩)] w fun e w' => e = .returned (.bool false) ∧ w' = w := by
 have HB := Hd hb.2; clear hb; go_enter Tryz.func210, Tryz.ntmps210
 obtain ⟨cHB, zHB⟩ := HB.out.reads; have lHB := HB.out.lt; go_wp2_with fail; go_ret; exact ⟨rfl, rfl⟩
def writerR (b : Nat) (l : List UInt8) : Res := anyR (fun F w => ∃ v, SepL [cellsR b 291 [v, .bool true], bytR v l] F w) (fun h hk hs => let ⟨v, h⟩ := h; ⟨v, h.keeps hk hs⟩) (fun h => let ⟨v, h⟩ := h; h.lt)
theorem Mem.openW {F : Nat → Prop} {w0 w : World} {L : List Res} {b : Nat} {l : List UInt8} (h : Mem F w0 w (writerR b l :: L)) : ∃ a c, Mem F w0 w (cellsR b 291 [.slice a l.length c, .bool true] :: bytR (.slice a l.length c) l :: L) := by
 obtain ⟨v, h2⟩ := h.openE (M := fun v => [cellsR b 291 [v, .bool true], bytR v l]) fun A hA => let ⟨v, h⟩ := hA; ⟨v, A, h, fun _ h => h⟩
 obtain ⟨a, c, rfl⟩ := (h2.pick (.there .here)).fact fun A hA => bytR.len hA
 exact ⟨a, c, h2⟩
theorem Mem.shutW {F : Nat → Prop} {w0 w : World} {L : List Res} {b : Nat} {v : Value} {l : List UInt8} (h : Mem F w0 w (cellsR b 291 [v, .bool true] :: bytR v l :: L)) : Mem F w0 w (writerR b l :: L) :=
 h.close (L1 := [cellsR b 291 [v, .bool true], bytR v l]) fun A hA => ⟨v, hA⟩
theorem writer_new (w : World) : Calls Tryz.prog 152 #[] w fun e w' => ∃ b, e = .returned (.pointer (some ⟨b, 0, none⟩)) ∧ Upd NoB w w' (writerR b []) := by
 have HM := Hd (Mem.start0 w); go_enter Tryz.func152, Tryz.ntmps152
 go_wp2_with fail; go_ret; refine ⟨_, rfl, ?_⟩; refine nxt HM fun w1 M => ?_
 replace HM := M; clear M; exact (Mem.shutW (L := []) (Mem.sub HM.out.bytNil (L' := [cellsR w.heap.size 291 [.slice none 0 0, .bool true], bytR (.slice none 0 0) []]) sbI)).upd
theorem wtruth_any {A : Nat → Prop} (w : World) (b : Nat) (l : List UInt8) (t : Bool) (hl : l.length ≤ 1073741824) (h : (writerR b l).p A w) :
 Calls Tryz.prog 264 #[.pointer (some ⟨b, 0, none⟩), .bool t] w fun e w' => e = .returned (.int .i64 0) ∧ Upd A w w' (writerR b (l ++ truL t)) := by
 obtain ⟨a, c, hm⟩ := (Mem.start (r := writerR b l) h).openW; have HM := Hd hm; have HLL := Hd hl; clear h hl hm; cases t
 all_goals
  go_enter Tryz.func264, Tryz.ntmps264
  have fM := HM.out.fa; go_wp2_with fail; all_goals clear fM
  obtain ⟨Ahb, hb⟩ := HM.out.get (r := cellsR b 291 [.slice a l.length c, .bool true]) pk; refine (writer_none w b _ hb).mono ?_; rintro e w' ⟨rfl, hwq⟩; rw [hwq]; clear hwq w' hb Ahb; have fM := HM.out.fa; go_wp2_with fail; all_goals clear fM
 · skip
   obtain ⟨B, hB, hS⟩ := (HM.out.pick (r := bytR (.slice a l.length c) l) pk).step; refine (wnum_any _ _ l 0 (by decide) (by have := HLL.out; omega) hB).mono ?_; rintro e w2 ⟨v2, rfl, hU⟩; obtain ⟨l2, hl2⟩ : ∃ l2, l ++ numL 0 = l2 := ⟨_, rfl⟩; rw [hl2] at hU; have HL2 := Hd hl2; obtain ⟨a2, c2, rfl⟩ : ∃ a2 c2, v2 = .slice a2 l2.length c2 := let ⟨_, h, _⟩ := hU; bytR.len h
   replace HM := Hd (hS _ _ hU); clear hU hS hB B hl2; have fM := HM.out.fa; go_wp2_with fail; all_goals clear fM
   go_ret; refine ⟨rfl, ?_⟩; refine nxt HM fun w3 M => ?_
   replace HM := M; clear M; rw [show l ++ truL false = l2 from HL2.out]; exact (Mem.shutW (L := []) (Mem.sub HM.out (by repeat first | exact Sub.nil | refine Sub.cons (by with_reducible repeat first | exact ph | apply pt) ?_))).upd
 · skip
   obtain ⟨B, hB, hS⟩ := (HM.out.pick (r := bytR (.slice a l.length c) l) pk).step; refine (wnum_any _ _ l 1 (by decide) (by have := HLL.out; omega) hB).mono ?_; rintro e w2 ⟨v2, rfl, hU⟩; obtain ⟨l2, hl2⟩ : ∃ l2, l ++ numL 1 = l2 := ⟨_, rfl⟩; rw [hl2] at hU; have HL2 := Hd hl2; obtain ⟨a2, c2, rfl⟩ : ∃ a2 c2, v2 = .slice a2 l2.length c2 := let ⟨_, h, _⟩ := hU; bytR.len h
   replace HM := Hd (hS _ _ hU); clear hU hS hB B hl2; have fM := HM.out.fa; go_wp2_with fail; all_goals clear fM
   go_ret; refine ⟨rfl, ?_⟩; refine nxt HM fun w3 M => ?_
   replace HM := M; clear M; rw [show l ++ truL true = l2 from HL2.out]; exact (Mem.shutW (L := []) (Mem.sub HM.out (by repeat first | exact Sub.nil | refine Sub.cons (by with_reducible repeat first | exact ph | apply pt) ?_))).upd
theorem wtext_any {A : Nat → Prop} (w : World) (b : Nat) (l s : List UInt8) (hl : l.length ≤ 1073741824) (hs : s.length ≤ 1048576) (h : (writerR b l).p A w) :
 Calls Tryz.prog 245 #[.pointer (some ⟨b, 0, none⟩), .string (bs s)] w fun e w' => e = .returned (.int .i64 0) ∧ Upd A w w' (writerR b (l ++ txtL s)) := by
 obtain ⟨a, c, hm⟩ := (Mem.start (r := writerR b l) h).openW; have HM := Hd hm; have HLL := Hd hl; clear h hl hm; have hsz : (bs s).size = s.length := bs_size s; have g1 : ¬ (1048576 : Int) < (s.length : Int) := by omega
 have HSL := Hd hs; clear hs; go_enter Tryz.func245, Tryz.ntmps245
 have fM := HM.out.fa; go_wp2_with fail; all_goals clear fM
 obtain ⟨Ahb, hb⟩ := HM.out.get (r := cellsR b 291 [.slice a l.length c, .bool true]) pk; refine (writer_none w b _ hb).mono ?_; rintro e w' ⟨rfl, hwq⟩; rw [hwq]; clear hwq w' hb Ahb; have fM := HM.out.fa; go_wp2_with fail; all_goals clear fM
 obtain ⟨B, hB, hS⟩ := (HM.out.pick (r := bytR (.slice a l.length c) l) pk).step; refine (wnum_any _ _ l s.length (by have := HSL.out; omega) (by have := HLL.out; omega) hB).mono ?_; rintro e w2 ⟨v2, rfl, hU⟩; obtain ⟨l2, hl2⟩ : ∃ l2, l ++ numL s.length = l2 := ⟨_, rfl⟩; rw [hl2] at hU; have HL2 := Hd hl2; obtain ⟨a2, c2, rfl⟩ : ∃ a2 c2, v2 = .slice a2 l2.length c2 := let ⟨_, h, _⟩ := hU; bytR.len h
 replace HM := Hd (hS _ _ hU); clear hU hS hB B hl2; have fM := HM.out.fa; go_wp2_with (at_builtin; refine standing ?_); all_goals clear fM
 obtain ⟨v8, w8, hr, hm9⟩ := Mem.bytAddS 27 HM.out s (by
  have h1 := congrArg List.length HL2.out; rw [List.length_append] at h1; have := numL_len s.length; have := HLL.out; have := HSL.out; omega)
 obtain ⟨l3, hl3⟩ : ∃ l3, l2 ++ s = l3 := ⟨_, rfl⟩; rw [hl3] at hm9; have HL3 := Hd hl3; obtain ⟨a8, c8, rfl⟩ := hm9.fact (fun A h => bytR.len h); replace HM := Hd hm9; refine ⟨?_⟩; refine wpList_append_ran rfl _ _ hr rfl rfl rfl ?_; clear hr hm9 hl3; have fM := HM.out.fa; go_wp2_with fail; all_goals clear fM
 go_ret; refine ⟨rfl, ?_⟩; refine nxt HM fun w3 M => ?_
 replace HM := M; clear M; rw [show l ++ txtL s = l3 by rw [← HL3.out, ← HL2.out, List.append_assoc]; rfl]; exact (Mem.shutW (L := []) (Mem.sub HM.out (by repeat first | exact Sub.nil | refine Sub.cons (by with_reducible repeat first | exact ph | apply pt) ?_))).upd
end Go.Proofs.YtoadjbgpfihoiaaGreatDoor
