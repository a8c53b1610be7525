/- Texts Signs, TA, TB, TC, one behind the other. Conditions: as each says. -/
import Derived.Test.YtoadjbgpfihoiaaGreatDoorPlB
import Derived.Test.YtoadjbgpfihoiaaGreatDoorPlJ
import Derived.Lib.TrimUEq
import Derived.Lib.ValidLaws
set_option linter.unusedVariables false
set_option linter.unusedSimpArgs false
set_option maxHeartbeats 8000000
set_option maxRecDepth 100000
namespace Go.Proofs.YtoadjbgpfihoiaaGreatDoor
open Go.RowKit
section
open Go.Lib
def sgn (l : List UInt8) : Nat × Nat := if decodeL l = (65533, 1) then (0, 0) else decodeL l
structure Sg where
 at' : Nat
 size : Nat
 n : Nat
 broken : Bool
def Sg.bad (x : Sg) : Bool := decide (x.n < 32) || (decide (127 ≤ x.n) && decide (x.n ≤ 159))
def signsF (l : List UInt8) : Nat → Nat → List Sg
 | 0, _ => []
 | f + 1, p => if p < l.length then (if (sgn (l.drop p)).2 = 0 then ⟨p, 1, 65533, true⟩ :: signsF l f (p + 1) else ⟨p, (sgn (l.drop p)).2, (sgn (l.drop p)).1, false⟩ :: signsF l f (p + (sgn (l.drop p)).2)) else []
def signsL (l : List UInt8) : List Sg := signsF l l.length 0
def blankB (l : List UInt8) : Bool := l.isEmpty || l.head? == some 32 || l.getLast? == some 32
def chk (l : List UInt8) : Nat := if 200 < l.length then 3 else if (signsL l).any (·.broken) then 130 else if (signsL l).any (·.bad) then 131 else if blankB l then 132 else 0
theorem decodeL_pos (l : List UInt8) : 1 ≤ (decodeL l).2 := by rw [decodeL_N]; exact decodeN_ge1 _ _ _ _ _
theorem sgn_zero (l : List UInt8) : (sgn l).2 = 0 ↔ decodeL l = (65533, 1) := by
 unfold sgn; constructor
 · intro h
   by_cases h1 : decodeL l = (65533, 1)
   · exact h1
   · rw [if_neg h1] at h
     have := decodeL_pos l; omega
 · intro h
   rw [if_pos h]
theorem sgn_some {l : List UInt8} (h : (sgn l).2 ≠ 0) : sgn l = decodeL l := by
 unfold sgn at h ⊢; by_cases h1 : decodeL l = (65533, 1)
 · rw [if_pos h1] at h; exact absurd rfl h
 · rw [if_neg h1]
theorem signsF_step (l : List UInt8) (f p : Nat) (h : p < l.length) : signsF l (f + 1) p = ⟨p, (decodeL (l.drop p)).2, (decodeL (l.drop p)).1, decide (decodeL (l.drop p) = (65533, 1))⟩ :: signsF l f (p + (decodeL (l.drop p)).2) := by
 rw [signsF, if_pos h]; by_cases h1 : decodeL (l.drop p) = (65533, 1)
 · rw [if_pos ((sgn_zero _).2 h1), h1]; rfl
 · have h2 : (sgn (l.drop p)).2 ≠ 0 := fun h => h1 ((sgn_zero _).1 h)
   rw [if_neg h2, sgn_some h2, decide_eq_false h1]
theorem signsF_end (l : List UInt8) (f p : Nat) (h : ¬ p < l.length) : signsF l f p = [] := by
 cases f with
 | zero => rfl
 | succ f => rw [signsF, if_neg h]
theorem valid_signs (l : List UInt8) : ∀ (f p : Nat), l.length ≤ p + f → validD (l.drop p) = !(signsF l f p).any (·.broken)
 | 0, p, h => by
   rw [signsF_end l 0 p (by omega), List.drop_of_length_le (by omega)]; rfl
 | f + 1, p, h => by
   by_cases hp : p < l.length
   · have hne : l.drop p ≠ [] := by
      intro h0; have := congrArg List.length h0; rw [List.length_drop] at this; simp at this; omega
     have hw := decodeL_pos (l.drop p); rw [signsF_step l f p hp, validD_step _ hne, List.any_cons, List.drop_drop, Bool.not_or]; by_cases h1 : decodeL (l.drop p) = (65533, 1)
     · rw [if_pos (by rw [h1]; exact ⟨rfl, rfl⟩), decide_eq_true h1]; rfl
     · rw [if_neg (fun h2 => h1 (Prod.ext h2.1 h2.2)), decide_eq_false h1, valid_signs l f _ (by omega)]; rfl
   · rw [signsF_end l _ p hp, List.drop_of_length_le (by omega)]; rfl
theorem sgn_N (l : List UInt8) : sgn l = if decodeN l.length (l.getD 0 0).toNat (l.getD 1 0).toNat (l.getD 2 0).toNat (l.getD 3 0).toNat = (65533, 1) then (0, 0) else decodeN l.length (l.getD 0 0).toNat (l.getD 1 0).toNat (l.getD 2 0).toNat (l.getD 3 0).toNat := by
 unfold sgn; rw [decodeL_N]
end
section
open Go.RowKit Go.Shelf
def Tabs (w : World) : Prop := Lib.Utf8Tabs (Tryz.laysValid_ren.g 3) (Tryz.laysValid_ren.g 4) w
theorem valid_any (w : World) (s : ByteArray) (hs : s.size ≤ 9223372036854775807) (hT : Tabs w) :
 Calls Tryz.prog 127 #[.string s] w fun e w' => e = .returned (.bool (Lib.validD s.data.toList)) ∧ Ext w w' :=
 (Any.utf8_ValidString Tryz.laysValid s w hs hT).mono fun e w' ⟨a, b⟩ => ⟨a, Ext.of_below b⟩
theorem trim_any (w : World) (s : ByteArray) (hs : s.size ≤ 9223372036854775807) :
 Calls Tryz.prog 131 #[.string s, .string ⟨#[32]⟩] w fun e w' => e = .returned (.string ⟨(Lib.trimB s.data.toList 32).toArray⟩) ∧ Ext w w' :=
 (Any.strings_Trim_one Tryz.laysTrim s 32 (by decide) w hs).mono fun e w' ⟨a, b⟩ => ⟨a, by
  rcases b with rfl | rfl
  · exact Keeps.refl _ _
  · exact Ext.drew0 _⟩
theorem long_any (w : World) (s : ByteArray) : Calls Tryz.prog 125 #[.string s] w fun e w' => e = .returned (.bool (decide (200 < s.size))) ∧ w' = w := by
 go_enter Tryz.func125, Tryz.ntmps125
 go_wp2_with fail; go_ret; simp; omega
theorem broken_any (w : World) (s : ByteArray) (hs : s.size ≤ 9223372036854775807) (hT : Tabs w) : Calls Tryz.prog 126 #[.string s] w fun e w' => e = .returned (.bool (!Lib.validD s.data.toList)) ∧ Ext w w' := by
 have HT := Hd hT; clear hT; go_enter Tryz.func126, Tryz.ntmps126
 go_wp2_with fail; refine (valid_any _ s hs HT.out).mono ?_; rintro e w' ⟨rfl, hE⟩; have HE := Hd hE; clear hE; go_wp2_with fail; go_ret; exact ⟨by simp, HE.out⟩
def badR (r : Nat) : Bool := decide (r < 32) || (decide (127 ≤ r) && decide (r < 160))
theorem rune_any (w : World) (r : Nat) : Calls Tryz.prog 129 #[.int .i32 r] w fun e w' => e = .returned (.bool (badR r)) ∧ w' = w := by
 by_cases h1 : r < 32
 · have g1 : (r : Int) < 32 := by omega
   go_enter Tryz.func129, Tryz.ntmps129
   go_wp2_with fail; go_ret; simp [badR, h1]
 · have g1 : ¬ (r : Int) < 32 := by omega
   by_cases h2 : 127 ≤ r
   · have g2 : (127 : Int) ≤ (r : Int) := by omega
     go_enter Tryz.func129, Tryz.ntmps129
     go_wp2_with fail; go_ret; simp [badR, h1, h2]; omega
   · have g2 : ¬ (127 : Int) ≤ (r : Int) := by omega
     go_enter Tryz.func129, Tryz.ntmps129
     go_wp2_with fail; go_ret; simp [badR, h1, h2]
theorem badR_eq (x : Sg) : x.bad = badR x.n := by
 unfold Sg.bad badR; congr 2
 exact decide_eq_decide.2 (by omega)
def badsF (l : List UInt8) (f p : Nat) : Bool := (signsF l f p).any (·.bad)
theorem bad_any (w : World) (c : Nat) (s : ByteArray) (hs : s.size ≤ 9223372036854775807) (hB : Box w c 186 [.func (.func 129) #[] #[]]) :
 Calls Tryz.prog 185 #[.string s, .pointer (some ⟨c, 0, none⟩)] w fun e w' => e = .returned (.bool (badsF s.data.toList s.size 0)) ∧ Ext w w' := by
 have HB := Hd hB; clear hB; go_enter Tryz.func185, Tryz.ntmps185
 go_wp2_with fail; have HE0 := Hd ((Keeps.refl NoB w).alloc (.stringIter s 0)); go_loopw [5] (fun r wr => ∃ (pos f : Nat), wr = w.iter s pos ∧ badsF s.data.toList f pos = badsF s.data.toList s.size 0 ∧ s.size ≤ pos + f) (fun _ wr => s.size - wr.iterPos w.heap.size)
 case atStart => exact ⟨0, s.size, rfl, rfl, by omega⟩
 case round =>
  obtain ⟨pos, f, rfl, hc, hf⟩ := hrel; have hBx := (HB.out.ext ((Keeps.refl NoB w).alloc (.stringIter s pos)) : Box (w.iter s pos) _ _ _); have hlt := HB.out.lt; by_cases hp : pos < s.size
  · have hnx : ∀ ty, (Instr.next (.pointer (some ⟨w.heap.size, 0, none⟩)) true ty).run Tryz.prog (w.iter s pos) = _ := fun ty => run_next_any w s pos ty hp
    have hb2 := (HB.out.ext ((Keeps.refl NoB w).alloc (.stringIter s (pos + (Utf8.decode s pos).2))) : Box (w.iter s (pos + (Utf8.decode s pos).2)) _ _ _); obtain ⟨f1, z1⟩ := hb2.reads; clear hBx hb2; have hw1 : 1 ≤ (Utf8.decode s pos).2 := by rw [← Lib.decodeL_drop]; exact decodeL_pos _
    obtain ⟨f, rfl⟩ : ∃ g, f = g + 1 := ⟨f - 1, by omega⟩
    have hstep : badsF s.data.toList (f + 1) pos = (badR (Utf8.decode s pos).1 || badsF s.data.toList f (pos + (Utf8.decode s pos).2)) := by
     unfold badsF; rw [signsF_step _ _ _ hp, List.any_cons, badR_eq, Lib.decodeL_drop]
    rw [hstep] at hc; have HC := Hd hc; have HW := Hd hw1; have HF := Hd hf; clear hstep hc hw1 hf; go_wp2_with fail; refine cret (rune_any _ _) ?_; cases hb : badR (Utf8.decode s pos).1
    · go_wp2_with fail
      go_roundw
      case rel =>
       have := HC.out; rw [hb, Bool.false_or] at this; exact ⟨_, f, rfl, this, by have := HF.out; have := HW.out; omega⟩
      case measure =>
       have := HW.out; simp; omega
    · go_wp2_with fail
      go_ret; refine ⟨?_, (Keeps.refl NoB w).alloc _⟩; have := HC.out; rw [hb, Bool.true_or] at this; rw [← this]; rfl
  · have hnx : ∀ ty, (Instr.next (.pointer (some ⟨w.heap.size, 0, none⟩)) true ty).run Tryz.prog (w.iter s pos) = _ := fun ty => run_next_end w s pos ty hp
    have hend : badsF s.data.toList f pos = false := by unfold badsF; rw [signsF_end _ _ _ hp]; rfl
    rw [hend] at hc; have HC := Hd hc; clear hend hc hBx; go_wp2_with fail; go_ret; exact ⟨by rw [← HC.out]; rfl, (Keeps.refl NoB w).alloc _⟩
def blankR (l : List UInt8) : Bool := l.isEmpty || decide (Lib.trimB l 32 ≠ l)
theorem blank_any (w : World) (l : List UInt8) (hs : l.length ≤ 9223372036854775807) : Calls Tryz.prog 130 #[.string (bs l)] w fun e w' => e = .returned (.bool (blankR l)) ∧ Ext w w' := by
 have e1 := bs_toList l; by_cases h0 : l = []
 · subst h0
   go_enter Tryz.func130, Tryz.ntmps130
   go_wp2_with fail; go_ret; exact ⟨rfl, Keeps.refl _ _⟩
 · have hd := bs_data l
   have hsz : (bs l).size ≤ 9223372036854775807 := by rw [Lib.size_eq, hd]; exact hs
   have hn : l.isEmpty = false := by cases l; exact absurd rfl h0; rfl
   have HD := Hd hd; have HN := Hd hn; clear hd hn hs; have e2 := bs_toList (Lib.trimB l 32); by_cases ht : Lib.trimB l 32 = l
   · have HT := Hd ht
     go_enter Tryz.func130, Tryz.ntmps130
     go_wp2_with fail; refine (trim_any _ _ hsz).mono ?_; rintro e w' ⟨rfl, hE⟩; rw [HD.out, HT.out]; have HE := Hd hE; clear hE ht e2; go_wp2_with fail; go_ret; exact ⟨by simp [blankR, HN.out, HT.out], HE.out⟩
   · have HT := Hd ht
     go_enter Tryz.func130, Tryz.ntmps130
     go_wp2_with fail; refine (trim_any _ _ hsz).mono ?_; rintro e w' ⟨rfl, hE⟩; rw [HD.out, show (⟨(Lib.trimB l 32).toArray⟩ : ByteArray) = bs (Lib.trimB l 32) from rfl]; have HE := Hd hE; clear hE; go_wp2_with fail; go_ret; exact ⟨by simp [blankR, HN.out, HT.out], HE.out⟩
end
section
open Go.RowKit Go.Shelf
theorem Tabs.ext {w w' : World} (h : Tabs w) (e : Ext w w') : Tabs w' := Utf8Tabs_below h ⟨e.os, e.tape, e.output, e.size, fun k hk => e.block k hk (noB k)⟩
theorem made_bad (w : World) : Calls Tryz.prog 128 #[.func (.func 129) #[] #[]] w fun r w' => r = .returned (.func (.func 185) #[] #[.pointer (some ⟨w.heap.size, 0, none⟩)]) ∧ w' = w.alloc (.cells #[.func (.func 129) #[] #[]] 186) := by
 go_enter Tryz.func128, Tryz.ntmps128
 go_wp2_with fail; go_ret; exact ⟨rfl, rfl⟩
def chkR (l : List UInt8) : Nat := if 200 < l.length then 3 else if Lib.validD l = false then 130 else if badsF l l.length 0 = true then 131 else if blankR l = true then 132 else 0
theorem check_text (W w : World) (hT : Tabs W) (hE : Ext W w) (l : List UInt8) (hs : l.length ≤ 9223372036854775807) :
 Calls Tryz.prog 54 #[.string (bs l)] w fun r w' => r = .returned (.int .i64 (chkR l : Int)) ∧ Ext w w' := by
 have HM := Hd (Mem.start0 w); have HT := Hd (hT.ext hE); have HS := Hd hs; clear hT hE hs; go_enter Tryz.func54, Tryz.ntmps54
 have fM := HM.out.fa; go_wp2_with fail; all_goals clear fM
 refine (made_bad _).mono ?_; rintro r w1 ⟨rfl, rfl⟩; have fM := HM.out.fa; go_wp2_with fail; all_goals clear fM
 refine nxt HM fun w1 M => ?_
 replace HM := M; clear M; refine wp_loop_rounds 5 ?_; rw [rounds_succ]; have fM := HM.out.fa; go_wp2_with fail; all_goals clear fM
 refine nxt HM fun w2 M => ?_
 replace HM := M; clear M; refine cret (long_any _ _) ?_; rw [bs_size]; by_cases h1 : 200 < l.length
 · have HQ := Hd (show chkR l = 3 by unfold chkR; rw [if_pos h1])
   rw [decide_eq_true h1]; have fM := HM.out.fa; go_wp2_with fail; all_goals clear fM
   go_ret; exact ⟨by rw [HQ.out]; rfl, HM.out.extTo⟩
 rw [decide_eq_false h1]; have H1 := Hd h1; clear h1; have fM := HM.out.fa; go_wp2_with fail; all_goals clear fM
 rw [rounds_succ]; have fM := HM.out.fa; go_wp2_with fail; all_goals clear fM
 refine nxt HM fun w3 M => ?_
 replace HM := M; clear M; refine (broken_any _ _ (by rw [bs_size]; exact HS.out) (HT.out.ext HM.out.extTo)).mono ?_; rintro r w4 ⟨rfl, hE⟩; replace HM := Hd (HM.out.ext hE); clear hE; rw [bs_data]; cases h2 : Lib.validD l
 · have HQ := Hd (show chkR l = 130 by unfold chkR; rw [if_neg H1.out, if_pos h2])
   clear h2; rw [Bool.not_false]; have fM := HM.out.fa; go_wp2_with fail; all_goals clear fM
   go_ret; exact ⟨by rw [HQ.out]; rfl, HM.out.extTo⟩
 have H2 := Hd h2; clear h2; rw [Bool.not_true]; have fM := HM.out.fa; go_wp2_with fail; all_goals clear fM
 rw [rounds_succ]; have fM := HM.out.fa; go_wp2_with fail; all_goals clear fM
 refine nxt HM fun w5 M => ?_
 replace HM := M; clear M; obtain ⟨Ahb, hb⟩ := HM.out.get (r := cellsR w.heap.size 186 [.func (.func 129) #[] #[]]) pk; refine (bad_any _ _ _ (by rw [bs_size]; exact HS.out) hb.2).mono ?_; rintro r w6 ⟨rfl, hE⟩; replace HM := Hd (HM.out.ext hE); clear hE hb; try clear Ahb
 rw [bs_data, bs_size]; cases h3 : badsF l l.length 0
 case true =>
  have HQ := Hd (show chkR l = 131 by unfold chkR; rw [if_neg H1.out, if_neg (by rw [H2.out]; exact Bool.noConfusion), if_pos h3]); clear h3; have fM := HM.out.fa; go_wp2_with fail; all_goals clear fM
  go_ret; exact ⟨by rw [HQ.out]; rfl, HM.out.extTo⟩
 have H3 := Hd h3; clear h3; have fM := HM.out.fa; go_wp2_with fail; all_goals clear fM
 rw [rounds_succ]; have fM := HM.out.fa; go_wp2_with fail; all_goals clear fM
 refine nxt HM fun w7 M => ?_
 replace HM := M; clear M; refine (blank_any _ _ HS.out).mono ?_; rintro r w8 ⟨rfl, hE⟩; replace HM := Hd (HM.out.ext hE); clear hE; cases h4 : blankR l
 case true =>
  have HQ := Hd (show chkR l = 132 by unfold chkR; rw [if_neg H1.out, if_neg (by rw [H2.out]; exact Bool.noConfusion), if_neg (by rw [H3.out]; exact Bool.noConfusion), if_pos h4]); clear h4; have fM := HM.out.fa; go_wp2_with fail; all_goals clear fM
  go_ret; exact ⟨by rw [HQ.out]; rfl, HM.out.extTo⟩
 have HQ := Hd (show chkR l = 0 by unfold chkR; rw [if_neg H1.out, if_neg (by rw [H2.out]; exact Bool.noConfusion), if_neg (by rw [H3.out]; exact Bool.noConfusion), if_neg (by rw [h4]; exact Bool.noConfusion)]); clear h4; have fM := HM.out.fa; go_wp2_with fail; all_goals clear fM
 rw [rounds_succ]; have fM := HM.out.fa; go_wp2_with fail; all_goals clear fM
 go_ret; exact ⟨by rw [HQ.out]; rfl, HM.out.extTo⟩
end
section
open Go.RowKit Go.Shelf
theorem dropWhile_len (p : UInt8 → Bool) : ∀ l : List UInt8, (l.dropWhile p).length ≤ l.length
 | [] => Nat.le_refl _
 | x :: l => by
   rw [List.dropWhile_cons]; split
   · have := dropWhile_len p l; rw [List.length_cons]; omega
   · exact Nat.le_refl _
theorem dropWhile_id (p : UInt8 → Bool) (l : List UInt8) : l.dropWhile p = l ↔ ∀ x, l.head? = some x → p x = false := by
 cases l with
 | nil => simp
 | cons y l =>
   rw [List.dropWhile_cons]; constructor
   · intro h x hx
     obtain rfl : y = x := by simpa using hx
     cases hp : p y
     · rfl
     · rw [if_pos hp] at h
       have := dropWhile_len p l; rw [h, List.length_cons] at this; omega
   · intro h
     rw [if_neg (by rw [h y rfl]; exact Bool.noConfusion)]
theorem trim_id (l : List UInt8) : Lib.trimB l 32 = l ↔ l.head? ≠ some 32 ∧ l.getLast? ≠ some 32 := by
 unfold Lib.trimB Lib.trimLeftB Lib.trimRightB; have k1 := dropWhile_len (fun x => x == 32) l.reverse; have k2 := dropWhile_len (fun x => x == 32) (l.reverse.dropWhile (fun x => x == 32)).reverse; constructor
 · intro h
   have hl := congrArg List.length h; rw [List.length_reverse] at k1 k2
   have e1 : l.reverse.dropWhile (fun x => x == 32) = l.reverse := by
    have hs : (l.reverse.dropWhile (fun x => x == 32)).length = l.reverse.length := by rw [List.length_reverse]; omega
    exact (List.dropWhile_suffix _).eq_of_length hs
   rw [e1, List.reverse_reverse] at h; constructor
   · intro hx
     have := (dropWhile_id _ _).1 h 32 hx; simp at this
   · intro hx
     have := (dropWhile_id _ _).1 e1 32 (by rw [List.head?_reverse]; exact hx); simp at this
 · rintro ⟨h1, h2⟩
   have e1 : l.reverse.dropWhile (fun x => x == 32) = l.reverse := (dropWhile_id _ _).2 fun x hx => by
    rw [List.head?_reverse] at hx; have : x ≠ 32 := fun e => h2 (by rw [hx, e])
    simpa using this
   rw [e1, List.reverse_reverse]
   exact (dropWhile_id _ _).2 fun x hx => by
    have : x ≠ 32 := fun e => h1 (by rw [hx, e])
    simpa using this
theorem blankR_eq (l : List UInt8) : blankR l = blankB l := by
 unfold blankR blankB; have h := trim_id l; by_cases h1 : l.head? = some 32
 · have : ¬ Lib.trimB l 32 = l := fun h2 => (h.1 h2).1 h1
   simp [h1, this]
 · by_cases h2 : l.getLast? = some 32
   · have : ¬ Lib.trimB l 32 = l := fun h3 => (h.1 h3).2 h2
     simp [h2, this]
   · have : Lib.trimB l 32 = l := h.2 ⟨h1, h2⟩
     rw [beq_eq_false_iff_ne.2 h1, beq_eq_false_iff_ne.2 h2]; simp [this]
theorem chkR_eq (l : List UInt8) : chkR l = chk l := by
 unfold chkR chk; have hv := valid_signs l l.length 0 (by omega); rw [List.drop_zero] at hv; rw [blankR_eq, show badsF l l.length 0 = (signsL l).any (·.bad) from rfl]; have hv' : Lib.validD l = !(signsL l).any (·.broken) := hv; rw [hv']; cases (signsL l).any (·.broken) <;> simp
theorem check_chk (W w : World) (hT : Tabs W) (hE : Ext W w) (l : List UInt8) (hs : l.length ≤ 9223372036854775807) :
 Calls Tryz.prog 54 #[.string (bs l)] w fun r w' => r = .returned (.int .i64 (chk l : Int)) ∧ Ext w w' := by
 rw [← chkR_eq]; exact check_text W w hT hE l hs
theorem tabs_of (W : World) (h : Tab W) : Tabs W := by
 have hL : laidMet Tryz.prog tables W := h; exact utf8Tabs_of_readsT (U8Types.of196 Tryz.laysValid) ⟨by kernel_rfl, by kernel_rfl, by kernel_rfl, by kernel_rfl, by kernel_rfl, by kernel_rfl, by kernel_rfl⟩ (Lib.laidMet.reads hL (.tail _ (.head _))) (Lib.laidMet.reads hL (.head _))
end
end Go.Proofs.YtoadjbgpfihoiaaGreatDoor
