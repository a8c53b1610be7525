/- Texts PlanC, Fork, Range, Brk, Lift, Win, OpenS, RowsS, StopS, one behind the other. Conditions: as each says. -/
import Derived.Test.YtoadjbgpfihoiaaGreatDoorRaA
import Derived.RangeFuncBound
import Derived.RangeFuncCalls
import Derived.RangeFuncLeaves
import Derived.Shelf.Abstract
import Derived.OrdersIn
import Derived.WalkMore
import Derived.Test.YtoadjbgpfihoiaaGreatDoorRows
import Derived.OpenShut
import Derived.ChangeSame
import Derived.Deep.Upon
import Derived.Deep.MidRow
import Derived.Deep.Slices
import Derived.Carry
set_option linter.unusedVariables false
set_option linter.unusedSimpArgs false
set_option maxHeartbeats 8000000
set_option maxRecDepth 100000
namespace Go.Proofs.YtoadjbgpfihoiaaGreatDoor
open Go.RowKit
section
def mStep (md : Region.Mode) (ms : List Nat) (j : Nat) (acc : Nat) (e : Edge) : Nat := if Region.binds md e && Nat.blt e.on j then Nat.lor acc (Nat.lor (Nat.shiftLeft 1 e.on) (ms.getD e.on 0)) else acc
def masksOK (md : Region.Mode) (ops : Array Oper) (ms : List Nat) : Bool :=
 (List.range ops.size).all fun j => match ops[j]? with | some o => Nat.beq (ms.getD j 0) (o.after.toList.foldl (mStep md ms j) 0) | none => true
def anc3 (ms : List Nat) (j i : Nat) : Bool := (ms.getD j 0).testBit i
theorem step_bit {md : Region.Mode} {ms : List Nat} {j i : Nat} : ∀ (l : List Edge) (acc : Nat), (l.foldl (mStep md ms j) acc).testBit i = true → acc.testBit i = true ∨ ∃ e ∈ l, Region.binds md e = true ∧ e.on < j ∧ (e.on = i ∨ (ms.getD e.on 0).testBit i = true)
 | [], acc, h => .inl h
 | e :: l, acc, h => by
   rw [List.foldl_cons] at h
   rcases step_bit l _ h with h1 | ⟨e', h1, h2⟩
   · unfold mStep at h1
     by_cases hc : (Region.binds md e && Nat.blt e.on j) = true
     · rw [if_pos hc] at h1
       rw [Bool.and_eq_true] at hc
       have hlt : e.on < j := by simpa using hc.2
       change (acc ||| ((1 <<< e.on) ||| ms.getD e.on 0)).testBit i = true at h1
       rw [Nat.testBit_or, Nat.testBit_or, Bool.or_eq_true, Bool.or_eq_true] at h1
       rcases h1 with h1 | h1 | h1
       · exact .inl h1
       · refine .inr ⟨e, List.mem_cons_self, hc.1, hlt, .inl ?_⟩
         rw [Nat.one_shiftLeft, Nat.testBit_two_pow] at h1
         simpa using h1
       · exact .inr ⟨e, List.mem_cons_self, hc.1, hlt, .inr h1⟩
     · rw [if_neg hc] at h1
       exact .inl h1
   · exact .inr ⟨e', List.mem_cons_of_mem _ h1, h2⟩
theorem mask_anc {md : Region.Mode} {ops : Array Oper} {ms : List Nat} (hm : masksOK md ops ms = true) : ∀ (n j i : Nat), j < n → j < ops.size → anc3 ms j i = true → anc md ops n j i = true
 | 0, j, i, hj, _, _ => by omega
 | n + 1, j, i, hj, hlt, h => by
   have h1 := List.all_eq_true.1 hm j (List.mem_range.2 hlt)
   have ho : ops[j]? = some ops[j] := Array.getElem?_eq_getElem hlt
   rw [ho] at h1
   have h2 := Nat.eq_of_beq_eq_true h1
   unfold anc3 at h
   rw [h2] at h
   rcases step_bit _ _ h with h3 | ⟨e, he, hb, hon, h3⟩
   · simp at h3
   · unfold anc
     rw [ho]
     simp only [Option.map_some, Option.getD_some, Array.any_eq_true', Bool.and_eq_true, Bool.or_eq_true, beq_iff_eq]
     refine ⟨e, by simpa using he, hb, ?_⟩
     rcases h3 with h3 | h3
     · exact .inl h3
     · exact .inr (mask_anc hm n e.on i (by omega) (by omega) h3)
theorem anc3_anc {md : Region.Mode} {ops : Array Oper} {ms : List Nat} (hm : masksOK md ops ms = true) (hl : ms.length = ops.size) {j i : Nat} (h : anc3 ms j i = true) : anc md ops ops.size j i = true := by
 by_cases hj : j < ops.size
 · exact mask_anc hm _ j i hj hj h
 · unfold anc3 at h
   rw [List.getD_eq_getElem?_getD, List.getElem?_eq_none (by omega)] at h
   simp at h
def needs3 (ms : List Nat) (ls : List Nat) (j : Nat) : Bool := ls.any fun i => i != j && !anc3 ms j i
def forcedOK3 (md : Region.Mode) (ops : Array Oper) (ms ls es : List Nat) : Array Bool → List Nat → Bool
 | listed, i :: tl => Region.ready md ops listed == [i] && !needs3 ms ls i && es.contains i && forcedOK3 md ops ms ls es (listed.setIfInBounds i true) tl
 | listed, [] => Region.ready md ops listed == []
def planOK3 (md : Region.Mode) (ops : Array Oper) (ms ls es : List Nat) (tl : List Nat) : Array Bool → List (Nat × Nat) → Bool
 | listed, (k, i) :: r =>
   (if k == 2 then Region.ready md ops listed == [i] && es.contains i else Region.free md ops listed i && (Region.ready md ops listed).contains i && (k == 0 || (k == 1 && ls.contains i) || (k == 3 && es.all fun j => anc3 ms j i))) && planOK3 md ops ms ls es tl (listed.setIfInBounds i true) r
 | listed, [] => forcedOK3 md ops ms ls es listed tl
section
variable {md : Region.Mode} {ops : Array Oper} {ms ls es tl : List Nat}
theorem needs3_not (hm : masksOK md ops ms = true) (hl : ms.length = ops.size) {j : Nat} (h : (!needs3 ms ls j) = true) : (!needs md ops ls j) = true := by
 unfold needs3 at h
 unfold needs
 rw [Bool.not_eq_true', List.any_eq_false] at h ⊢
 intro i hi h1
 refine h i hi ?_
 rw [Bool.and_eq_true, Bool.not_eq_true'] at h1 ⊢
 refine ⟨h1.1, ?_⟩
 cases h2 : anc3 ms j i with
 | false => rfl
 | true => have := anc3_anc hm hl h2; rw [h1.2] at this; cases this
theorem forced3 (hm : masksOK md ops ms = true) (hl : ms.length = ops.size) : ∀ (tl : List Nat) (d : Array Bool), forcedOK3 md ops ms ls es d tl = true → forcedOK md ops ls es d tl = true
 | [], d, h => h
 | i :: tl, d, h => by
   unfold forcedOK3 at h
   unfold forcedOK
   rw [Bool.and_eq_true, Bool.and_eq_true, Bool.and_eq_true] at h ⊢
   exact ⟨⟨⟨h.1.1.1, needs3_not hm hl h.1.1.2⟩, h.1.2⟩, forced3 hm hl tl _ h.2⟩
theorem plan3 (ms : List Nat) (hm : masksOK md ops ms = true) (hl : ms.length = ops.size) : ∀ {pl : List (Nat × Nat)} {d : Array Bool}, planOK3 md ops ms ls es tl d pl = true → planOK md ops ls es tl d pl = true
 | [], d, h => forced3 hm hl tl d h
 | (k, i) :: r, d, h => by
   unfold planOK3 at h
   unfold planOK
   rw [Bool.and_eq_true] at h ⊢
   refine ⟨?_, plan3 ms hm hl h.2⟩
   have h1 := h.1
   by_cases hk : (k == 2) = true
   · rw [if_pos hk] at h1 ⊢; exact h1
   · rw [if_neg hk] at h1 ⊢
     rw [Bool.and_eq_true] at h1 ⊢
     refine ⟨h1.1, ?_⟩
     have h2 := h1.2
     rw [Bool.or_eq_true] at h2 ⊢
     refine h2.imp id fun h3 => ?_
     rw [Bool.and_eq_true, List.all_eq_true] at h3 ⊢
     exact ⟨h3.1, fun j hj => anc3_anc hm hl (h3.2 j hj)⟩
end
end
section
section
variable {P : Program} {ops : Array Oper} {Q : Exit → Act → World → Prop} {md : Region.Mode} {C : World → Prop} {ls es : List Nat}
structure AnyG (P : Program) (md : Region.Mode) (ops : Array Oper) (Q : Exit → Act → World → Prop) (C : World → Prop) (ls es : List Nat) (fuel : Nat) (listed : Array Bool) (a : Act) (w : World) : Prop where
 out : wpAnyT P md ops Q C ls es fuel listed a w
def closedOK (md : Region.Mode) (ops : Array Oper) (listed : Array Bool) : Bool := (List.range ops.size).all fun j => !(listed.getD j false) || ((ops[j]?).map fun o => o.after.all fun e => !Region.binds md e || listed.getD e.on false).getD true
theorem closed_of {listed : Array Bool} (h : closedOK md ops listed = true) : Closed md ops listed := by
 intro j o ho hj e he hb
 unfold closedOK at h
 rw [List.all_eq_true] at h
 have hlt : j < ops.size := by
  rcases Nat.lt_or_ge j ops.size with h' | h'
  · exact h'
  · rw [Array.getElem?_eq_none h'] at ho; cases ho
 have h1 := h j (List.mem_range.2 hlt)
 rw [hj, Bool.not_true, Bool.false_or, ho, Option.map_some, Option.getD_some, Array.all_eq_true'] at h1
 have h2 := h1 e he
 rw [hb, Bool.not_true, Bool.false_or] at h2
 exact h2
def planOKf (md : Region.Mode) (ops : Array Oper) (ls es : List Nat) : Array Bool → List (Nat × Nat) → Bool
 | listed, (k, i) :: r =>
   (if k == 2 then Region.ready md ops listed == [i] && es.contains i else Region.free md ops listed i && (Region.ready md ops listed).contains i && (k == 0 || (k == 1 && ls.contains i) || (k == 3 && es.all fun j => anc2 md ops ops.size j i))) && planOKf md ops ls es (listed.setIfInBounds i true) r
 | _, [] => true
def afterL (listed : Array Bool) : List (Nat × Nat) → Array Bool
 | [] => listed
 | (_, i) :: r => afterL (listed.setIfInBounds i true) r
theorem plan_soundF (hs : Region.noSelect ops = true) (hQ : ∀ c a w d v, Q (.panic c) (Act.put a d v) w → Q (.panic c) a w) (T : Act → World → Prop) (L : Array Bool) (f : Nat) (hT : ∀ a w, T a w → wpAnyT P md ops Q C ls es f L a w) :
 ∀ (pl : List (Nat × Nat)) (fuel : Nat) (listed : Array Bool) (a : Act) (w : World), planOKf md ops ls es listed pl = true → afterL listed pl = L → f + pl.length = fuel → Closed md ops listed → C w →
 wpPlan P ops Q C T (planL ops pl) a w → wpAnyT P md ops Q C ls es fuel listed a w
 | [], fuel, listed, a, w, hp, hL, hf, _, _, h => by
   obtain rfl : f = fuel := by simpa using hf
   obtain rfl : listed = L := hL
   exact hT _ _ h
 | (k, i) :: r, 0, _, _, _, _, _, hf, _, _, _ => by simp at hf
 | (k, i) :: r, fuel + 1, listed, a, w, hp, hL, hf, hc, hC, h => by
   simp only [planOKf, Bool.and_eq_true] at hp
   obtain ⟨hk, hp⟩ := hp
   have hf' : f + r.length = fuel := by simp at hf; omega
   have hready : i ∈ Region.ready md ops listed := by
    split at hk
    · have : Region.ready md ops listed = [i] := by
       simp only [Bool.and_eq_true, beq_iff_eq] at hk
       exact hk.1
      rw [this]; simp
    · simp only [Bool.and_eq_true] at hk
      simpa using hk.1.2
   obtain ⟨_, o, ho, _⟩ := mem_ready.1 hready
   simp only [planL, ho] at h
   unfold wpPlan at h
   have ih := fun a' w' hC' h' => plan_soundF hs hQ T L f hT r fuel (listed.setIfInBounds i true) a' w' hp hL hf' (hc.list hready) hC' h'
   by_cases k2 : k = 2
   · simp only [k2, beq_self_eq_true, if_true, Bool.and_eq_true, beq_iff_eq] at hk
     obtain ⟨hk, hei⟩ := hk
     refine ⟨fun h0 => (by rw [hk] at h0; cases h0), fun j hj => ?_⟩
     rw [hk] at hj
     obtain rfl : j = i := by simpa using hj
     unfold wpOp
     simp only [ho]
     split
     · rename_i hw
       rw [if_pos hw] at h
       rw [k2, if_neg (by decide), if_neg (by decide), if_neg (by decide)] at h
       exact .inl (Oper.wp_mono (fun a' w' h' => ⟨⟨fun he => (by rw [hei] at he; cases he), fun _ _ => h'.1⟩, ih a' w' h'.1 h'.2⟩) h)
     · rename_i hw
       rw [if_neg hw] at h
       exact ⟨⟨fun _ => by first | rfl | trivial, fun _ h => h⟩, ih _ _ hC h⟩
   · have hkf : (k == 2) = false := by simpa using k2
     simp only [hkf, Bool.false_eq_true, if_false, Bool.and_eq_true] at hk
     obtain ⟨⟨hfree, _⟩, hls⟩ := hk
     have fin : ∀ (S : World → Prop) (v : Value), (∀ w, (i ∈ ls → C w) → S w) → YieldsIf P ops S o v a → wpPlan P ops Q C T (planL ops r) (a.put o.dst v) w → wpAnyT P md ops Q C ls es (fuel + 1) listed a w :=
      fun S v hS hy h' => wpAnyT_first ho (Region.noSelect_spec hs) (fun c a w => hQ c a w _ _) hS fuel listed a w hc (Region.free_spec ho hfree) hready hy (fun _ => hC) (ih _ _ hC h')
     by_cases hw : Region.wanted o (yielded ops a.tmps) = true
     · rw [if_pos hw] at h
       by_cases k0 : k = 0
       · rw [if_pos k0] at h
         obtain ⟨v, hy, h'⟩ := quietV_yields hw h
         exact fin _ v (fun _ _ => trivial) hy h'
       · rw [if_neg k0] at h
         have k0' : (k == 0) = false := by simpa using k0
         simp only [k0', Bool.false_or, Bool.or_eq_true, Bool.and_eq_true, beq_iff_eq] at hls
         rcases hls with hls | hls
         · have hl : i ∈ ls := by simpa using hls.2
           rw [if_pos hls.1] at h
           obtain ⟨v, hy, h'⟩ := quietV_yields hw h
           exact fin _ v (fun w h => h hl) hy h'
         · rw [hls.1, if_neg (by decide), if_pos rfl] at h
           obtain ⟨v, hy, h'⟩ := quietV_yields hw h
           exact wpAnyT_exact ho (Region.noSelect_spec hs) (fun c a w => hQ c a w _ _) (fun j hj => anc2_anc (List.all_eq_true.1 hls.2 j hj)) fuel listed a hc (Region.free_spec ho hfree) hready hy (ih _ _ hC h')
     · rw [if_neg hw] at h
       exact fin (fun _ => True) undef (fun _ _ => trivial) (.inr ⟨by simpa using hw, rfl⟩) h
theorem any_seg {listed L : Array Bool} {a : Act} {w : World} {fuel : Nat} (pl : List (Nat × Nat)) (f : Nat) (hs : Region.noSelect ops = true) (hQ : ∀ c a w d v, Q (.panic c) (Act.put a d v) w → Q (.panic c) a w)
 (hc : closedOK md ops listed = true) (hp : planOKf md ops ls es listed pl = true) (hL : afterL listed pl = L) (hf : f + pl.length = fuel) (hC : C w)
 (h : Pl P ops Q C (AnyG P md ops Q C ls es f L) (planL ops pl) a w) : AnyG P md ops Q C ls es fuel listed a w :=
 ⟨plan_soundF hs hQ (AnyG P md ops Q C ls es f L) L f (fun _ _ h => h.out) pl fuel listed a w hp hL hf (closed_of hc) hC h.out⟩
theorem any_end {listed : Array Bool} {a : Act} {w : World} {fuel : Nat} (pl : List (Nat × Nat)) (tl : List Nat) (hs : Region.noSelect ops = true) (hQ : ∀ c a w d v, Q (.panic c) (Act.put a d v) w → Q (.panic c) a w)
 (hc : closedOK md ops listed = true) (hp : planOK2 md ops ls es tl listed pl = true) (hf : pl.length + tl.length = fuel) (hmap : tl.map (ops[·]?) = (tailL ops tl).map some) (hC : C w)
 (h : Pl P ops Q C (wpList P ops Q (tailL ops tl)) (planL ops pl) a w) : AnyG P md ops Q C ls es fuel listed a w :=
 ⟨plan_sound hs (fun c a w o v _ => hQ c a w o.dst v) tl _ hmap pl fuel listed a w (plan2 hp) hf (closed_of hc) hC h.out⟩
theorem any_fork {listed : Array Bool} {a : Act} {w : World} {f : Nat} (i j : Nat) {oi oj : Oper} (hr : Region.ready md ops listed = [i, j]) (he : (es.contains i && es.contains j) = true) (hi : ops[i]? = some oi) (hj : ops[j]? = some oj)
 (wi : Region.wanted oi (yielded ops a.tmps) = true) (wj : Region.wanted oj (yielded ops a.tmps) = true)
 (h1 : ∀ K : Act → World → Prop, (∀ a w, (C w ∧ AnyG P md ops Q C ls es f (listed.setIfInBounds i true) a w) → K a w) → oi.wp P a w K Q)
 (h2 : ∀ K : Act → World → Prop, (∀ a w, (C w ∧ AnyG P md ops Q C ls es f (listed.setIfInBounds j true) a w) → K a w) → oj.wp P a w K Q) : AnyG P md ops Q C ls es (f + 1) listed a w := by
 rw [Bool.and_eq_true] at he
 refine ⟨fun h0 => (by rw [hr] at h0; cases h0), fun k hk => ?_⟩
 rw [hr, List.mem_cons, List.mem_singleton] at hk
 rcases hk with rfl | rfl
 · unfold wpOp
   simp only [hi]
   rw [if_pos wi]
   exact .inl (h1 _ fun a' w' h' => ⟨⟨fun h => (by rw [he.1] at h; cases h), fun _ _ => h'.1⟩, h'.2.out⟩)
 · unfold wpOp
   simp only [hj]
   rw [if_pos wj]
   exact .inl (h2 _ fun a' w' h' => ⟨⟨fun h => (by rw [he.2] at h; cases h), fun _ _ => h'.1⟩, h'.2.out⟩)
theorem wp_region_forks {id : Nat} {a : Act} {w : World} {l : List Oper} (ls es : List Nat) (C : World → Prop) (hm : P.follows .mixedOrders = true)
 (h : AnyG P .any l.toArray Q C ls es l.toArray.size (Array.replicate l.toArray.size false) a w.drew) : (Code.region id l.toArray true).wp P Q a w :=
 wp_region_any hm (wpAny_of_T _ _ _ _ h.out)
end
end
section
def Mark (w : World) (D : Nat) : Prop := w.heap[D]? = some (.deferred (some []))
def markOf (D : Nat) : Deferred := { target := .collected D, args := #[] }
theorem Mark.keeps {w w' : World} {D : Nat} {S : Nat → Prop} (h : Mark w D) (hk : Keeps S w w') (hs : ¬ S D) : Mark w' D :=
 (hk.block D (Array.getElem?_eq_some_iff.1 h).1 hs).trans h
theorem Mark.lt {w : World} {D : Nat} (h : Mark w D) : D < w.heap.size := (Array.getElem?_eq_some_iff.1 h).1
def IterOK {α : Type} (F : Fence) (n : Nat) (P : Program) (gf : Nat) (lb : Array Value) (xs : List α) (Rv : α → Array Value → World → World → Prop) (S : Nat → Prop) (w0 : World) : Prop :=
 ∀ (l : Nat) (J Jx : Nat → World → Prop) (W : World), w0.heap.size ≤ l →
   (∀ k W, J k W → Keeps S w0 W) → (∀ k W, J k W → w0.heap.size + 1 < W.heap.size) → (∀ k W W', J k W → Ext W W' → J k W') → (∀ k W W', Jx k W → Ext W W' → Jx k W') →
   (∀ k (hk : k < xs.length) v W2 W1, J k W2 → Ext W2 W1 → Rv xs[k] v W2 W1 → YieldAt F (n - 1) P l v W1 fun e W' =>
    (e = .returned (.bool true) ∧ J (k + 1) W') ∨ (e = .returned (.bool false) ∧ Jx (k + 1) W')) →
   J 0 W → CallsIn F n P gf (#[.func (.yield l) #[] #[]] ++ lb) W fun e W' => (∃ v, e = .returned v) ∧ (J xs.length W' ∨ ∃ k, k < xs.length ∧ Jx (k + 1) W')
def RB (S : Nat → Prop) (n : Nat) : Nat → Prop := fun b => (b < n ∧ S b) ∨ n + 2 ≤ b
def roundEnd (S : Nat → Prop) (n : Nat) (I : Nat → World → Prop) (Ix : Code → Nat → World → Prop) (k : Nat) (W : World) : Exit → Act → World → Prop
 | .normal, _, W' => Keeps (RB S n) W W' ∧ I k W'
 | .ret, _, W' => Keeps (RB S n) W W' ∧ Ix .ret k W'
 | .exit id, _, W' => Keeps (RB S n) W W' ∧ Ix (.exit id) k W'
 | .goto t, _, W' => Keeps (RB S n) W W' ∧ Ix (.goto t) k W'
 | .panic _, _, _ => False
 | .outgrown, _, _ => False
section
variable {F : Fence} {n : Nat} {P : Program}
theorem wpIn_range {α : Type} {g : Operand} {ps : Array Tmp} {assign body : Code} {Q : Exit → Act → World → Prop} {a : Act} {w : World}
 (hro : F.round = none) (h1 : 1 ≤ n) {gf : Nat} {lb : Array Value} (hg : a.eval g = .func (.func gf) #[] lb) (hFg : F.fn gf) (eg : ∀ args w, (callFunc gf args).run P w = .ok (.enter gf args) w)
 {xs : List α} {Rv : α → Array Value → World → World → Prop} {S : Nat → Prop} (hiter : IterOK F (n - 1) P gf lb xs Rv S w) (hps : ∀ x v W0 W, Rv x v W0 W → v.size = ps.size)
 (I : Nat → World → Prop) (Ix : Code → Nat → World → Prop) (hIk : ∀ k W, I k W → Keeps S w W)
 (hI : ∀ k W W', I k W → Keeps (OneB (w.heap.size + 1)) W W' → I k W') (hIx : ∀ c k W W', Ix c k W → Keeps (OneB (w.heap.size + 1)) W W' → Ix c k W') (h0 : I 0 w)
 (hround : ∀ k (hk : k < xs.length) v W0 W, I k W0 → Ext W0 W → I k W → Rv xs[k] v W0 W → w.heap.size + 1 < W0.heap.size → w.heap.size + 1 < W.heap.size →
  assign.wpIn (F.inRound (w.heap.size + 1)) (n - 1 - 1) P (Exit.then (fun a' W' => Keeps (RB S w.heap.size) W W' ∧
   ∀ W2, Keeps (OneB (w.heap.size + 1)) W' W2 → body.wpIn (F.inRound (w.heap.size + 1)) (n - 1 - 1) P (roundEnd S w.heap.size I Ix (k + 1) W2) a' W2) (fun _ _ _ => False))
   { tmps := (ps.zip v).foldl (fun t (p, v) => t.setIfInBounds p v) a.tmps, defers := [] } W)
 (hdone : ∀ W, I xs.length W → Mark W w.heap.size → Q .normal { a with defers := markOf w.heap.size :: a.defers } W)
 (hstop : ∀ c k W, k < xs.length → Ix c (k + 1) W → Mark W w.heap.size → c.wpIn F n P Q { a with defers := markOf w.heap.size :: a.defers } W) :
 (Code.rangeFunc g ps assign body).wpIn F n P Q a w := by
 refine wpIn_rangeFunc ?_
 intro fn hfn
 rw [hro]
 obtain ⟨rec, hrec⟩ : ∃ rec : LoopState → Option Code → Loop, rec = fun st pe => { state := st, pending := pe, fn, tmps := a.tmps, params := ps, assign, body, defers := w.heap.size } := ⟨_, rfl⟩
 obtain ⟨W1, hW1⟩ : ∃ W1, (w.alloc (.deferred (some []))).alloc (.loop (rec .ready none)) = W1 := ⟨_, rfl⟩
 have hL1 : W1.heap[w.heap.size + 1]? = some (.loop (rec .ready none)) := by
  rw [← hW1]; have := World.alloc_heap_new (w.alloc (.deferred (some []))) (.loop (rec .ready none)); rwa [World.size_alloc] at this
 have hK1 : Mark W1 w.heap.size := by
  rw [← hW1]; exact (Below.heap_alloc _ _ _ (by simp)).trans (World.alloc_heap_new w _)
 have hE1 : Ext w W1 := by rw [← hW1]; exact ((Keeps.refl _ w).alloc _).alloc _
 have hI1 : I 0 W1 := hI 0 w W1 h0 (Ext.keeps hE1)
 have hDL : ¬ OneB (w.heap.size + 1) w.heap.size := by unfold OneB; omega
 have put1 : ∀ (W : World) (o : Obj), Keeps (OneB (w.heap.size + 1)) W (W.putObj (w.heap.size + 1) o) := fun W o => (Keeps.refl _ W).putObj _ o (.inl rfl)
 have nL : ¬ RB S w.heap.size (w.heap.size + 1) := by unfold RB; omega
 have nD : ¬ RB S w.heap.size w.heap.size := by unfold RB; omega
 refine ⟨w.heap.size + 1, [markOf w.heap.size], W1, { target := .fn (.func gf) lb, args := #[.func (.yield (w.heap.size + 1)) #[] #[]] }, W1, gf,
  #[.func (.yield (w.heap.size + 1)) #[] #[]] ++ lb, W1, ?_, ?_, ?_, ?_, fun _ => h1, ?_⟩
 · rw [← hW1, hrec]; exact run_enterLoop_outer _ _ _ _ _
 · simp only [resolve, hg]
   simp [go_sem]
 · intro f' hf'; simp [Target.leads] at hf'; subst hf'; exact hFg
 · simp [invoke, go_sem, eg]
 · refine (hiter (w.heap.size + 1)
    (fun k W => I k W ∧ W.heap[w.heap.size + 1]? = some (.loop (rec .ready none)) ∧ Mark W w.heap.size)
    (fun k W => ∃ c, Ix c k W ∧ W.heap[w.heap.size + 1]? = some (.loop (rec .done (some c))) ∧ Mark W w.heap.size)
    W1 (by omega) (fun k W h => hIk k W h.1) (fun k W h => (Array.getElem?_eq_some_iff.1 h.2.1).1)
    (fun k W W' h he => ⟨hI k W W' h.1 (Ext.keeps he), (he.block _ (Array.getElem?_eq_some_iff.1 h.2.1).1 (noB _)).trans h.2.1, h.2.2.keeps he (noB _)⟩)
    (fun k W W' h he => by
     obtain ⟨c, h1, h2, h3⟩ := h
     exact ⟨c, hIx c k W W' h1 (Ext.keeps he), (he.block _ (Array.getElem?_eq_some_iff.1 h2).1 (noB _)).trans h2, h3.keeps he (noB _)⟩)
    ?_ ⟨hI1, hL1, hK1⟩).mono ?_
   · rintro k hk v W0 W ⟨hi0, hl0, hm0⟩ hE0 hv
     have hi : I k W := hI k W0 W hi0 (Ext.keeps hE0)
     have hlt0 : w.heap.size + 1 < W0.heap.size := (Array.getElem?_eq_some_iff.1 hl0).1
     have hl := (hE0.block _ hlt0 (noB _)).trans hl0
     have hm : Mark W w.heap.size := hm0.keeps hE0 (noB _)
     have hlt : w.heap.size + 1 < W.heap.size := (Array.getElem?_eq_some_iff.1 hl).1
     have hy := run_yield (P := P) (args := v) hl (by rw [hrec]; exact hps _ _ _ _ hv)
     rw [hrec] at hy
     refine ⟨fn, _, assign, body, hy, roundIn_of_wpIn hfn (wpIn_mono (hround k hk v W0 W hi0 hE0 hi hv hlt0 hlt) ?_)⟩
     rintro e a' Wa hp
     cases e with
     | normal =>
       obtain ⟨hka, hbody⟩ := hp
       have hla : Wa.heap[w.heap.size + 1]? = some (.loop (rec .ready none)) := (hka.block _ hlt nL).trans hl
       have hma : Mark Wa w.heap.size := hm.keeps hka nD
       have hlta : w.heap.size + 1 < Wa.heap.size := (Array.getElem?_eq_some_iff.1 hla).1
       refine ⟨_, run_beginRound hla (by rw [hrec]), ?_⟩
       have hl2 : (Wa.putObj (w.heap.size + 1) (.loop { rec .ready none with state := .busy })).heap[w.heap.size + 1]? = some (.loop { rec .ready none with state := .busy }) := World.putObj_heap_same hlta
       have hm2 : Mark (Wa.putObj (w.heap.size + 1) (.loop { rec .ready none with state := .busy })) w.heap.size := hma.keeps (put1 _ _) hDL
       refine wpIn_mono (hbody _ (put1 _ _)) ?_
       have fin : ∀ (jump : Option Code) (W3 : World), Keeps (RB S w.heap.size) (Wa.putObj (w.heap.size + 1) (.loop { rec .ready none with state := .busy })) W3 →
        (Instr.endRound (w.heap.size + 1) jump).run P W3 = .ok (.bool jump.isNone) (W3.putObj (w.heap.size + 1) (.loop (rec (if jump.isNone then .ready else .done) jump))) ∧
        (W3.putObj (w.heap.size + 1) (.loop (rec (if jump.isNone then .ready else .done) jump))).heap[w.heap.size + 1]? = some (.loop (rec (if jump.isNone then .ready else .done) jump)) ∧
        Mark (W3.putObj (w.heap.size + 1) (.loop (rec (if jump.isNone then .ready else .done) jump))) w.heap.size := fun jump W3 hk3 => by
        have hl3 := (hk3.block _ (Array.getElem?_eq_some_iff.1 hl2).1 nL).trans hl2
        have := run_endRound (P := P) jump hl3
        rw [hrec] at this ⊢
        exact ⟨this, World.putObj_heap_same (Array.getElem?_eq_some_iff.1 hl3).1, (hm2.keeps hk3 nD).keeps (put1 _ _) hDL⟩
       rintro e a3 W3 hp
       cases e with
       | normal =>
         obtain ⟨hk3, hi3⟩ := hp
         obtain ⟨hr, hl4, hm4⟩ := fin none W3 hk3
         exact ⟨_, _, hr, .inl ⟨rfl, hI _ _ _ hi3 (put1 _ _), hl4, hm4⟩⟩
       | ret =>
         obtain ⟨hk3, hi3⟩ := hp
         obtain ⟨hr, hl4, hm4⟩ := fin (some .ret) W3 hk3
         exact ⟨_, _, hr, .inr ⟨rfl, .ret, hIx _ _ _ _ hi3 (put1 _ _), hl4, hm4⟩⟩
       | exit id =>
         obtain ⟨hk3, hi3⟩ := hp
         obtain ⟨hr, hl4, hm4⟩ := fin (some (.exit id)) W3 hk3
         exact ⟨_, _, hr, .inr ⟨rfl, .exit id, hIx _ _ _ _ hi3 (put1 _ _), hl4, hm4⟩⟩
       | goto t =>
         obtain ⟨hk3, hi3⟩ := hp
         obtain ⟨hr, hl4, hm4⟩ := fin (some (.goto t)) W3 hk3
         exact ⟨_, _, hr, .inr ⟨rfl, .goto t, hIx _ _ _ _ hi3 (put1 _ _), hl4, hm4⟩⟩
       | panic ch => exact hp.elim
       | outgrown => exact hp.elim
     | ret => exact hp.elim
     | exit id => exact hp.elim
     | goto t => exact hp.elim
     | panic ch => exact hp.elim
     | outgrown => exact hp.elim
   · rintro e W2 ⟨⟨v, rfl⟩, (⟨hi, hl, hm⟩ | ⟨k, hk, c, hi, hl, hm⟩)⟩
     · exact ⟨none, _, by have := run_endLoop (P := P) hl (by rw [hrec]; simp); rw [hrec] at this; exact this, hdone _ (hI _ _ _ hi (put1 _ _)) (hm.keeps (put1 _ _) hDL)⟩
     · exact ⟨some c, _, by have := run_endLoop (P := P) hl (by rw [hrec]; simp); rw [hrec] at this; exact this, hstop c k _ hk (hIx _ _ _ _ hi (put1 _ _)) (hm.keeps (put1 _ _) hDL)⟩
theorem leaves_marks {fn : Func} {tmps : Array Value} {R : Ending → World → Prop} : ∀ (Ds : List Nat) (w : World), Ds.Nodup → (∀ D, D ∈ Ds → Mark w D) →
 (∀ w', Keeps (fun b => b ∈ Ds) w w' → ∃ v, (results fn tmps).run P w' = .ok v w' ∧ R (.returned v) w') → LeavesInM F n P fn tmps R (Ds.map markOf) .returning w
 | [], w, _, _, h => by
   obtain ⟨v, h1, h2⟩ := h w (Keeps.refl _ _)
   exact ⟨v, h1, h2⟩
 | D :: Ds, w, hn, hm, h => by
   have hD := hm D (by simp)
   refine ⟨by simp, .inl ⟨D, _, rfl, run_takeDeferred hD, ?_⟩⟩
   have hp : Keeps (OneB D) w (w.putObj D (.deferred none)) := (Keeps.refl _ w).putObj _ _ (.inl rfl)
   have hnd := List.nodup_cons.1 hn
   refine leaves_marks Ds _ hnd.2 (fun E hE => (hm E (by simp [hE])).keeps hp (fun e => hnd.1 (by rw [← show E = D from e]; exact hE))) ?_
   intro w' hk
   exact h w' ((hp.mono (T := fun b => b ∈ D :: Ds) fun k _ hk => by rw [show k = D from hk]; simp).then hk fun i _ hi => by simp [hi])
end
section
variable {P : Program} {Q : Exit → Act → World → Prop} {n : Nat}
def noDefer (l : List Oper) : Bool := l.all fun o => match o.op with | .defer _ => false | _ => true
theorem noDefer_spec {l : List Oper} (h : noDefer l = true) {o : Oper} (ho : o ∈ l) : ∀ c, o.op ≠ .defer c := by
 intro c hc
 have := List.all_eq_true.1 h o ho
 rw [hc] at this
 cases this
theorem calls_inRound {r : Nat} {f : FuncId} {args : Array Value} {w : World} {R : Ending → World → Prop} (h : Calls P f args w R) : CallsIn (Fence.wide.inRound r) n P f args w R :=
 CallsIn.inRound r (callsIn_wide.2 h)
theorem rows_inRound {r : Nat} {row : String} {args : Array Value} {w : World} {R : Value → World → Prop} (h : Rows P row args w R) : RowsIn (Fence.wide.inRound r) n P row args w R :=
 fun c cs _ => let ⟨v, w', h1, h2⟩ := h c cs; ⟨v, w', h1, stepsIn_wide.2 h2⟩
theorem wpIn_of_wp {o : Oper} {r : Nat} {a : Act} {w : World} {K : Act → World → Prop} (hd : ∀ c, o.op ≠ .defer c) (h : o.wp P a w K Q) : o.wpIn (Fence.wide.inRound r) n P a w K Q := by
 refine ⟨fun _ _ => trivial, ?_⟩
 rw [Oper.semAt_plain _ _ _ hd]
 unfold Oper.wp at h
 generalize (execOp a.eval o).run P w = q at *
 cases q with
 | ok x w' =>
   cases x <;> simp only [Oper.upon] at h <;> simp only [Oper.uponIn]
   case value u => exact h
   case skip => exact h
   case defer d => exact h
   case enter f args => exact ⟨fun h => by simp [Fence.wide] at h, calls_inRound h⟩
   case row row args => exact ⟨fun h => by simp [Fence.wide] at h, rows_inRound h⟩
 | halt x w' =>
   cases x <;> simp only [Oper.upon] at h <;> simp only [Oper.uponIn]
   case panic u => exact h
theorem opsIn_of_ops {l : List Oper} {r : Nat} (hd : noDefer l = true) (hout : ¬ LetsOut Q) : ∀ (is : List Nat) (a : Act) (w : World), wpOps P l.toArray Q is a w → wpOpsIn (Fence.wide.inRound r) n P l.toArray Q is a w
 | [], _, _, h => h
 | i :: is, a, w, h => by
   simp only [wpOps] at h
   simp only [wpOpsIn]
   cases ho : l.toArray[i]? with
   | none => simp only [ho] at h ⊢; exact opsIn_of_ops hd hout is a w h
   | some o =>
     simp only [ho] at h ⊢
     have hm : o ∈ l := by
      have := Array.mem_of_getElem? ho
      simpa using this
     split
     · rename_i hw
       rw [if_pos hw] at h
       rcases h with h | h
       · exact Oper.wpIn_mono (fun a w h => opsIn_of_ops hd hout is a w h) (wpIn_of_wp (noDefer_spec hd hm) h)
       · exact (hout h.2).elim
     · rename_i hw
       rw [if_neg hw] at h
       exact ⟨fun _ _ => trivial, opsIn_of_ops hd hout is _ w h⟩
theorem wpIn_region_plan {id r : Nat} {a : Act} {w : World} {l : List Oper} (pl : List (Nat × Nat)) (ls es tl : List Nat) (C : World → Prop) (hd : noDefer l = true) (hout : ¬ LetsOut Q) (hm : P.follows .mixedOrders = true) (hs : Region.noSelect l.toArray = true)
 (hp : planOK .any l.toArray ls es tl (Array.replicate l.toArray.size false) pl = true) (hl : pl.length + tl.length = l.toArray.size) (hmap : tl.map (l.toArray[·]?) = (tailL l.toArray tl).map some) (hC : C w.drew)
 (hQ : ∀ c a w d v, Q (.panic c) (Act.put a d v) w → Q (.panic c) a w)
 (h : Pl P l.toArray Q C (wpList P l.toArray Q (tailL l.toArray tl)) (planL l.toArray pl) a w.drew) : (Code.region id l.toArray true).wpIn (Fence.wide.inRound r) n P Q a w := by
 refine wpIn_region_draw fun t => opsIn_of_ops hd hout _ _ _ ?_
 have ha : wpAny P .any l.toArray Q l.toArray.size (Array.replicate l.toArray.size false) a w.drew := by
  refine wpAny_of_T (C := C) (ls := ls) _ _ _ _ (plan_sound hs (fun c a w o v _ => hQ c a w o.dst v) tl _ hmap pl _ _ a _ hp hl ?_ hC h.out)
  intro j o ho hj
  exfalso
  revert hj
  rw [Array.getD_eq_getD_getElem?, Array.getElem?_replicate]
  split <;> simp
 simp only [Region.schedule, hm, Bool.true_or, if_true]
 exact wpAny_sound _ _ _ _ _ ha
end
theorem wpIn_scope {P : Program} {Q : Exit → Act → World → Prop} {n : Nat} {c : Code} {a : Act} {w : World} (h : c.wpIn Fence.wide n P (Exit.noGoto Q) a w) : (Code.scope c).wpIn Fence.wide n P Q a w :=
 wpIn_wide.2 (wp_scope_straight (wpIn_wide.1 h))
end
section
theorem Mark.ext {w w' : World} {D : Nat} (h : Mark w D) (hk : Ext w w') : Mark w' D := h.keeps hk (noB _)
section
variable {F : Fence} {n : Nat} {P : Program}
end
end
section
open Go.RowKit Go.ChangeShapes Go.WideShapes Go.ChangeAt
theorem post_true {H : Type} {enc : TypeId × Value → H} {f : Func} {s : ChangeSpec} {fresh handsOn : Bool} {W W' : World} {args : Array Value} {ds gs : List (DataW H)} {before pa pv : List MemPlace}
 (hE : Ext W W') (hrt : f.resultTypes = #[4]) (hf : (s.fn H (ds ++ gs)).results = [.lit (.bool true)])
 (hW : DataW.Whole enc Tryz.prog f.params.toList s.vars false W args.toList ds gs before)
 (hargs : ∀ sp : Nat → Bool, (∀ p ∈ before, sp p.block = true) → DataW.TrodAll enc Tryz.prog W' 0 sp true f.params.toList args.toList (s.fn H (ds ++ gs)).args pa)
 (hvars : ∀ sp : Nat → Bool, (∀ p ∈ before, sp p.block = true) → DataW.TrodVars enc Tryz.prog W' sp s.vars (s.fn H (ds ++ gs)).vars pv) (hps : before = pa ++ pv) :
 s.post enc Tryz.prog f false fresh handsOn false W args (.bool true) W' := by
 have hold : ∀ p ∈ before, (fun b => decide (b < W.heap.size)) p.block = true := fun p hp => by simpa using hW.lt p hp
 have hres : ∀ b sp hd, DataW.TrodAll enc Tryz.prog W' b sp hd f.resultTypes.toList ((Value.bool true).resultList f.resultTypes.size) (s.fn H (ds ++ gs)).results [] := by
  intro b sp hd
  rw [hf, hrt]
  exact trodAll_cons_mk (shut_bool Tryz.underlying4 _) trodAll_mk0
 have hk : W.keptBut W' (fun _ => False) := hE.below.frame _
 have hlt := hW.lt
 refine ⟨ds, gs, before, [], pa, pv, hW, hres _ _ _, hargs _ hold, hvars _ hold, World.keptBut_mono (fun _ h => h.elim) hk, fun _ => ?_⟩
 obtain ⟨_, _, _, _, _, hz, hn⟩ := hW
 refine ⟨?_, _, _, ([] ++ pa) ++ pv, ⟨[] ++ pa, pv, trodAll_append (hargs _ fun _ _ => rfl) (hres _ _ _), hvars _ fun _ _ => rfl, rfl, ?_, fun h => ?_⟩, ?_⟩
 · exact ok_one hrt rfl (okWide_bool_mk Tryz.underlying4 _)
 · intro b off hp
   have hp' : MemPlace.cell b off ∈ before := by rw [hps]; simpa using hp
   rw [Keeps.frozen hE (noB b) (hlt _ hp')]
   exact hz b off hp'
 · have := hn h
   rw [hps] at this
   simpa using this
 · intro p hp _
   rw [hps]
   simpa using hp
end
section
def Win (w : World) (base sz : Nat) (v : Value) (n : Nat) (cs : List Value) : Prop :=
 cs.length = n * sz ∧ ((v = .slice none 0 0 ∧ n = 0) ∨
  ∃ g o cap, v = .slice (some ⟨g, o, none⟩) n cap ∧ base ≤ g ∧ n ≤ cap ∧ cap ≤ maxLen ∧ g < w.heap.size ∧ w.there g o (cap * sz) ∧ w.rangeAt g o cs)
def Own (v : Value) : Nat → Prop := fun k => v.ownBlock = some k
theorem Win.nil (w : World) (base sz : Nat) : Win w base sz (.slice none 0 0) 0 [] := ⟨by simp, .inl ⟨rfl, rfl⟩⟩
section
variable {w w' : World} {S : Nat → Prop} {base sz n : Nat} {v : Value} {cs : List Value}
theorem Win.keeps (h : Win w base sz v n cs) (hk : Keeps S w w') (hb : ∀ g, v.ownBlock = some g → ¬ S g) : Win w' base sz v n cs := by
 obtain ⟨h0, h | ⟨g, o, cap, rfl, h1, h2, h3, h4, h5, h6⟩⟩ := h
 · exact ⟨h0, .inl h⟩
 · have hg := hb g rfl
   have hc : ∀ a : Addr, a.block = g → w'.cell? a = w.cell? a := fun a ha => World.cell?_of_block (by rw [ha]; exact hk.block g h4 hg)
   have hf : ∀ a : Addr, a.block = g → w'.frozen? a = w.frozen? a := fun a ha => World.frozen?_of_block (by rw [ha]; exact hk.block g h4 hg)
   exact ⟨h0, .inr ⟨g, o, cap, rfl, h1, h2, h3, Nat.lt_of_lt_of_le h4 hk.size, fun j hj => ⟨by rw [hc _ rfl]; exact (h5 j hj).1, by rw [hf _ rfl]; exact (h5 j hj).2⟩, fun j u hu => by rw [hc _ rfl]; exact h6 j u hu⟩⟩
theorem Win.ext (h : Win w base sz v n cs) (hk : Ext w w') : Win w' base sz v n cs := h.keeps hk fun _ _ => noB _
theorem Win.len (h : Win w base sz v n cs) : ∃ a c, v = .slice a n c := by
 rcases h.2 with ⟨rfl, rfl⟩ | ⟨g, o, cap, rfl, _⟩
 · exact ⟨_, _, rfl⟩
 · exact ⟨_, _, rfl⟩
theorem Win.form (h : Win w base sz v n cs) (hn : 0 < n) : ∃ g o cap, v = .slice (some ⟨g, o, none⟩) n cap ∧ base ≤ g ∧ g < w.heap.size ∧ n ≤ cap ∧ w.rangeAt g o cs := by
 rcases h.2 with ⟨_, h0⟩ | ⟨g, o, cap, h1, h2, h3, h4, h5, h6, h7⟩
 · omega
 · exact ⟨g, o, cap, h1, h2, h5, h3, h7⟩
theorem Win.block (h : Win w base sz v n cs) : ∀ g, v.ownBlock = some g → base ≤ g ∧ g < w.heap.size := by
 intro g hg
 rcases h.2 with ⟨rfl, _⟩ | ⟨g', o, cap, rfl, h2, h3, h4, h5, h6, h7⟩
 · cases hg
 · cases hg; exact ⟨h2, h5⟩
theorem Win.mono {base' : Nat} (h : Win w base sz v n cs) (hb : base' ≤ base) : Win w base' sz v n cs := by
 obtain ⟨h0, h | ⟨g, o, cap, h1, h2, h3⟩⟩ := h
 · exact ⟨h0, .inl h⟩
 · exact ⟨h0, .inr ⟨g, o, cap, h1, by omega, h3⟩⟩
theorem Win.drop {g o cap : Nat} (h : Win w base sz (.slice (some ⟨g, o, none⟩) n cap) n cs) (i : Nat) (hi : i ≤ n) : Win w base sz (.slice (some ⟨g, o + i * sz, none⟩) (n - i) (cap - i)) (n - i) (cs.drop (i * sz)) := by
 obtain ⟨h0, ⟨h, _⟩ | ⟨g', o', cap', h, h1, h2, h3, h4, h5, h6⟩⟩ := h
 · cases h
 · cases h
   have e1 : (cap - i) * sz = cap * sz - i * sz := Nat.sub_mul _ _ _
   have e2 : i * sz ≤ cap * sz := Nat.mul_le_mul_right _ (by omega)
   refine ⟨by rw [List.length_drop, h0, Nat.sub_mul], .inr ⟨g, o + i * sz, _, rfl, h1, by omega, by omega, h4, fun j hj => ?_, fun j u hu => ?_⟩⟩
   · rw [show o + i * sz + j = o + (i * sz + j) by omega]
     exact h5 _ (by omega)
   · rw [show o + i * sz + j = o + (i * sz + j) by omega]
     exact h6 _ _ (by rwa [List.getElem?_drop] at hu)
theorem Win.drop' {g o cap : Nat} (h : Win w base sz (.slice (some ⟨g, o, none⟩) n cap) n cs) (i : Nat) (hi : i ≤ n) : Win w base sz (.slice (if cap = i then some ⟨g, o, none⟩ else some ⟨g, o + i * sz, none⟩) (n - i) (cap - i)) (n - i) (cs.drop (i * sz)) := by
 by_cases hc : cap = i
 · rw [if_pos hc]
   have hd := h.drop i hi
   obtain ⟨h0, ⟨h, _⟩ | ⟨g', o', cap', h, h1, h2, h3, h4, h5, h6⟩⟩ := h
   · cases h
   · cases h
     obtain rfl : n = i := by omega
     subst hc
     simp only [Nat.sub_self] at hd ⊢
     refine ⟨hd.1, .inr ⟨g, o, 0, rfl, h1, Nat.le_refl _, Nat.zero_le _, h4, fun j hj => by omega, fun j u hu => ?_⟩⟩
     have := hd.1
     rw [Nat.zero_mul] at this
     rw [List.eq_nil_of_length_eq_zero this] at hu
     cases hu
 · rw [if_neg hc]; exact h.drop i hi
end
theorem rangeAt_append {w : World} {b o : Nat} {xs ys : List Value} (h1 : w.rangeAt b o xs) (h2 : w.rangeAt b (o + xs.length) ys) : w.rangeAt b o (xs ++ ys) := by
 intro j u hu
 by_cases hj : j < xs.length
 · rw [List.getElem?_append_left hj] at hu
   exact h1 j u hu
 · rw [List.getElem?_append_right (by omega)] at hu
   have := h2 _ u hu
   rwa [show o + xs.length + (j - xs.length) = o + j by omega] at this
theorem heap_block_setCells (b : Nat) : ∀ (vs : List Value) (o : Nat) (w : World), (w.setCells b o vs).heap.size = w.heap.size ∧ (w.setCells b o vs).os = w.os ∧ (w.setCells b o vs).tape = w.tape ∧ (w.setCells b o vs).output = w.output ∧ ∀ i, i ≠ b → (w.setCells b o vs).heap[i]? = w.heap[i]?
 | [], _, _ => ⟨rfl, rfl, rfl, rfl, fun _ _ => rfl⟩
 | v :: vs, o, w => by
   obtain ⟨h1, h2, h3, h4, h5⟩ := heap_block_setCells b vs (o + 1) (w.setCell ⟨b, o, none⟩ v)
   rw [World.setCells]
   exact ⟨h1.trans (by simp [World.setCell]), h2, h3, h4, fun i hi => (h5 i hi).trans (Below.heap_setCell w _ v i (by exact fun e => hi e))⟩
theorem Keeps.setCells {S : Nat → Prop} {w w1 : World} (h : Keeps S w w1) (b o : Nat) (vs : List Value) (hp : S b ∨ w.heap.size ≤ b) : Keeps S w (w1.setCells b o vs) := by
 obtain ⟨h1, h2, h3, h4, h5⟩ := heap_block_setCells b vs o w1
 refine ⟨h2.trans h.os, h3.trans h.tape, h4.trans h.output, by rw [h1]; exact h.size, fun i hi hs => (h5 i ?_).trans (h.block i hi hs)⟩
 rintro rfl
 rcases hp with hp | hp
 · exact hs hp
 · omega
theorem run_append_win {P : Program} (w : World) (base : Nat) (t tx ty e : TypeId) (i : TypeInfo) (z : Value) (sz bytes : Nat) (ht : P.underlying t = some (.slice e)) (hi : P.info? e = some i) (hz : i.zero = some z)
 (hsize : i.size = sz) (hby : i.bytes = bytes) (hzs : z.cells.size = sz) (v : Value) (n : Nat) (cs : List Value) (hown : Win w base sz v n cs)
 (x : Value) (m : Nat) (news : List Value) (hs : Src P sz tx x m news w) (h63 : n + m ≤ maxLen) (hbytes : (n + m) * bytes ≤ 140737488355328) (hbase : base ≤ w.heap.size) :
 ∃ v' w', (Builtin.append_ #[t, tx] ty #[v, x]).run P w = .ok v' w' ∧ Win w' base sz v' (n + m) (cs ++ news) ∧ Keeps (fun k => v.ownBlock = some k) w w' ∧ (v'.ownBlock = v.ownBlock ∨ v'.ownBlock = some w.heap.size) := by
 subst hsize
 subst hby
 have hnl := hs.newsLen
 have h63' : ((n + m : Nat) : Int) ≤ 9223372036854775807 := by simp only [maxLen] at h63; omega
 have hlen : (cs ++ news).length = (n + m) * i.size := by rw [List.length_append, hown.1, hnl, Nat.add_mul]
 have grown : ∀ (old : Nat), Win (w.drew.alloc (.cells ((cs ++ news).toArray ++ Builtin.zeroCells z.cells (grownCap w (n + m) old e - (n + m))) e)) base i.size
  (.slice (some ⟨w.heap.size, 0, none⟩) (n + m) (grownCap w (n + m) old e)) (n + m) (cs ++ news) := by
  intro old
  have hge := grownCap_ge w (n + m) old e
  have hcm := grownCap_le_maxLen w (n + m) old e h63
  have hnew : (w.drew.alloc (.cells ((cs ++ news).toArray ++ Builtin.zeroCells z.cells (grownCap w (n + m) old e - (n + m))) e)).heap[w.heap.size]? = some (.cells ((cs ++ news).toArray ++ Builtin.zeroCells z.cells (grownCap w (n + m) old e - (n + m))) e (0, 0)) :=
   World.alloc_heap_new w.drew _
  have hsz : ((cs ++ news).toArray ++ Builtin.zeroCells z.cells (grownCap w (n + m) old e - (n + m))).size = grownCap w (n + m) old e * i.size := by
   rw [Array.size_append, size_zeroCells, hzs, List.size_toArray, hlen, ← Nat.add_mul]
   congr 1
   omega
  refine ⟨hlen, .inr ⟨w.heap.size, 0, _, rfl, hbase, hge, hcm, by simp, fun j hj => ⟨?_, ?_⟩, fun j u hu => ?_⟩⟩
  · simp only [World.cell?, hnew, Nat.zero_add]
    rw [Array.getElem?_eq_getElem (by omega)]; rfl
  · simp only [World.frozen?, hnew]; simp
  · simp only [World.cell?, hnew, Nat.zero_add]
    have hj : j < (cs ++ news).length := (List.getElem?_eq_some_iff.1 hu).1
    rw [Array.getElem?_append_left (by simpa using hj)]
    simpa using hu
 have grownK : ∀ (o : Obj) (S : Nat → Prop), Keeps S w (w.drew.alloc o) := fun o S => ((Keeps.refl S w).drew).alloc o
 rcases hown.2 with ⟨rfl, rfl⟩ | ⟨g, o, cap, rfl, hbg, hnc, hcm, hglt, hth, hra⟩
 · have hcs : cs = [] := List.eq_nil_of_length_eq_zero (by simpa using hown.1)
   subst hcs
   by_cases hm : m = 0
   · subst hm
     have hn : news = [] := List.eq_nil_of_length_eq_zero (by simpa using hnl)
     subst hn
     exact ⟨_, _, run_append_nothing w t tx ty e i ht hi none 0 0 (Nat.le_refl _) x hs, hown, Keeps.refl _ _, .inl rfl⟩
   · have hr := run_append_grow_src (P := P) w t tx ty e i z ht hi hz none 0 0 [] (run_firstCells_none w.drew i.size 0 0 0) x m news hs (by omega) h63' (growslice_fits (by omega) hbytes)
     exact ⟨_, _, hr, grown 0, grownK _ _, .inr rfl⟩
 · by_cases hroom : n + m ≤ cap
   · have hle : (n + m) * i.size ≤ cap * i.size := Nat.mul_le_mul_right _ hroom
     rw [Nat.add_mul] at hle
     have hth' : w.there g (o + n * i.size) news.length := fun j hj => by
      have := hth (n * i.size + j) (by omega)
      rwa [← Nat.add_assoc] at this
     have hr := run_append_room_src (P := P) w t tx ty e i ht hi g o n cap x m news hs hroom (fun j hj => (hth' j hj).1) (fun j hj => (hth' j hj).2)
     refine ⟨_, _, hr, ⟨hlen, .inr ⟨g, o, cap, rfl, hbg, hroom, hcm, by rw [(heap_block_setCells g news _ w).1]; exact hglt, World.there_setCells hth _ _ _, ?_⟩⟩, (Keeps.refl _ _).setCells _ _ _ (.inl rfl), .inl rfl⟩
     refine rangeAt_append (World.rangeAt_setCells_apart hra g _ news (.inr (.inl (by rw [hown.1]; omega)))) ?_
     rw [hown.1]
     exact World.rangeAt_setCells_same w g _ news hth'
   · have hold : (Builtin.firstCells i.size n (.slice (some ⟨g, o, none⟩) n cap)).run P w.drew = .ok cs.toArray w.drew :=
      run_firstCells_some w.drew i.size n ⟨g, o, none⟩ n cap cs hown.1 (fun j u hu => by rw [Addr.add_lit]; exact hra j u hu)
     have hr := run_append_grow_src (P := P) w t tx ty e i z ht hi hz (some ⟨g, o, none⟩) n cap cs hold x m news hs (by omega) h63' (growslice_fits (by omega) hbytes)
     exact ⟨_, _, hr, grown cap, grownK _ _, .inr rfl⟩
theorem SrcCells.toSrc {P : Program} {w : World} {x : Value} {m sz : Nat} {news : List Value} {tx e' : TypeId} (h : SrcCells w x m news) (hk : P.underlying tx = some (.slice e')) (hl : news.length = m * sz) (h1 : ∀ u ∈ news, u.oneCell' = true) : Src P sz tx x m news w := by
 rcases h with ⟨rfl, rfl, rfl⟩ | ⟨ad, c, rfl, hc⟩
 · exact Src.ofNil w hk 0
 · exact Src.ofSlice w hk ad m c news hl hc h1
theorem Win.of_owns {w : World} {base : Nat} {e : TypeId} {sz : Nat} {v : Value} {n : Nat} {xs : List Value} (h : w.ownsRow base e sz v n xs) : Win w base sz v n xs := by
 rcases h.2 with ⟨h1, h2⟩ | ⟨g, cap, cur, h1, hb, hg, hnc, hcm, hcs, htake⟩
 · exact ⟨h.1, .inl ⟨h1, h2⟩⟩
 · subst h1
   have hlt := (Array.getElem?_eq_some_iff.1 hg).1
   refine ⟨h.1, .inr ⟨g, 0, cap, rfl, hb, hnc, hcm, hlt, fun j hj => ⟨?_, ?_⟩, fun j u hu => ?_⟩⟩
   · simp only [World.cell?, hg, Nat.zero_add]
     rw [Array.getElem?_eq_getElem (by omega)]; rfl
   · simp [World.frozen?, hg]
   · have := h.cells (g := g) rfl j u hu
     rwa [Addr.add_lit] at this
theorem Win.src {w : World} {base sz n : Nat} {v : Value} {cs : List Value} (h : Win w base sz v n cs) : SrcCells w v n cs := by
 rcases h.2 with ⟨rfl, rfl⟩ | ⟨g, o, cap, rfl, _, _, _, _, _, h6⟩
 · exact .inl ⟨rfl, rfl, List.eq_nil_of_length_eq_zero (by simpa using h.1)⟩
 · exact .inr ⟨_, _, rfl, fun j u hu => by rw [Addr.add_lit]; exact h6 j u hu⟩
end
section
open Go.RowKit Go.ChangeShapes Go.WideShapes
def Old (w : World) : Nat → Prop := fun k => k < w.heap.size
def Rd {H : Type} (enc : TypeId × Value → H) (P : Program) (w : World) (t : TypeId) {α : Type} (En : List Value → α → Prop) : Prop :=
 ∀ (fuel : Nat) (cs : List Value) (x : DataW H × List MemPlace), DataW.trod enc P w 0 (fun _ => true) true fuel t cs = some x → ∃ a : α, En cs a
section
variable {H : Type} {enc : TypeId × Value → H} {P : Program} {w : World}
theorem rd_int {t : TypeId} {k : IntKind} (ht : P.underlying t = some (.int k)) : Rd enc P w t fun cs (n : Int) => cs = [.int k n] ∧ (Lit.int k n).wf = true := fun fuel cs x h =>
 let ⟨n, h1, _, h2⟩ := DataW.trod_int ht h
 ⟨n, h1, h2⟩
theorem rd_bool {t : TypeId} (ht : P.underlying t = some .bool) : Rd enc P w t fun cs (b : Bool) => cs = [.bool b] := fun fuel cs x h =>
 let ⟨n, h1, _⟩ := DataW.trod_bool ht h
 ⟨n, h1⟩
theorem rd_string {t : TypeId} (ht : P.underlying t = some .string) : Rd enc P w t fun cs (l : List UInt8) => cs = [.string (bs l)] ∧ l.length ≤ 9223372036854775807 := fun fuel cs x h => by
 obtain ⟨s, h1, _, h2⟩ := DataW.trod_string ht h
 refine ⟨s.data.toList, by rw [h1, bs_of], ?_⟩
 simp only [maxLen] at h2
 simpa using h2
theorem list_of_each {α : Type} {p : Nat → α → Prop} : ∀ n, (∀ i, i < n → ∃ a, p i a) → ∃ l : List α, l.length = n ∧ ∀ i (h : i < l.length), p i l[i]
 | 0, _ => ⟨[], rfl, fun i h => by simp at h⟩
 | n + 1, h => by
   obtain ⟨l, h1, h2⟩ := list_of_each n fun i hi => h i (by omega)
   obtain ⟨a, ha⟩ := h n (by omega)
   refine ⟨l ++ [a], by simp [h1], fun i hi => ?_⟩
   by_cases hil : i < l.length
   · rw [List.getElem_append_left hil]; exact h2 i hil
   · have : i = n := by simp at hi; omega
     subst this
     rw [List.getElem_append_right (by omega)]
     simpa [h1] using ha
def AtOf (w : World) {α : Type} (C : Nat) (En : List Value → α → Prop) (b o : Nat) (a : α) : Prop := ∃ cs, En cs a ∧ cs.length = C ∧ ∀ j, j < C → w.cell? ⟨b, o + j, none⟩ = cs[j]?
theorem rd_slice {t e : TypeId} {α : Type} {En : List Value → α → Prop} (C : Nat) (ht : P.underlying t = some (.slice e)) (hC : P.cellsOf e = C) (hC0 : 0 < C) (he : Rd enc P w e En) :
 Rd enc P w t fun cs (l : List α) => ∃ v, cs = [v] ∧ SlV (Old w) (AtOf w C En) C v l ∧ l.length ≤ 9223372036854775807 := fun fuel cs x h => by
 rcases Deep.open_slice ht h with ⟨h0, _⟩ | ⟨a, len, cap, m, n, D, Pl, h0, hb, hl, hm, hmm, hx, hi⟩
 · exact ⟨[], _, h0, SlV.nil, by simp⟩
 · simp only [if_true] at hmm
   subst hmm
   rw [hC] at hi
   have hm' : m ≤ 9223372036854775807 := hm
   by_cases hc0 : m = 0
   · subst hc0
     obtain rfl : len = 0 := by omega
     exact ⟨[], _, h0, .inl ⟨some a, rfl, rfl⟩, by simp⟩
   · obtain ⟨cs0, q1, q2⟩ := hi 0 (by omega)
     obtain ⟨_, q3, q4⟩ := World.cells?_some q1
     have hcell := q4 0 hC0
     have ha : (a.add (0 * C)).add 0 = a := by simp [Addr.add]
     rw [ha] at hcell
     obtain ⟨u, hu⟩ : ∃ u, w.cell? a = some u := ⟨_, by rw [hcell]; exact List.getElem?_eq_getElem (by omega)⟩
     obtain ⟨b, o, sp⟩ := a
     have hsp : sp = none := by
      cases sp with
      | none => rfl
      | some s =>
        exfalso
        simp only [World.cell?] at hu
        split at hu <;> simp at hu
     subst hsp
     have hbl : b < w.heap.size := World.block_lt_of_cell? _ _ hu
     obtain ⟨l, hll, hle⟩ := list_of_each (p := fun i (y : α) => AtOf w C En b (o + i * C) y) len fun i hil => by
      obtain ⟨cs', r1, r2⟩ := hi i (by omega)
      obtain ⟨_, r3, r4⟩ := World.cells?_some r1
      obtain ⟨y, hy⟩ := he _ _ _ r2
      refine ⟨y, cs', hy, r3, fun j hj => ?_⟩
      have := r4 j hj
      rwa [Deep.add_add, Addr.add_lit, ← Nat.add_assoc] at this
     subst hll
     exact ⟨l, _, h0, .inr ⟨b, o, m, rfl, hl, hbl, hle⟩, by omega⟩
theorem rd_field {t : TypeId} {fs : Array Field} (ht : P.underlying t = some (.struct fs)) {fuel : Nat} {cs : List Value} {x : DataW H × List MemPlace} (h : DataW.trod enc P w 0 (fun _ => true) true fuel t cs = some x) :
 cs.length = P.cellsOf t ∧ ∀ (i : Nat) (f : Field) (o c : Nat) {α : Type} {En : List Value → α → Prop}, fs[i]? = some f → f.offset = o → P.cellsOf f.type = c → Rd enc P w f.type En → ∃ a, En ((cs.drop o).take c) a := by
 obtain ⟨xs, n, h1, h2, h3, h4, h5⟩ := DataW.trod_struct ht h
 refine ⟨h3, fun i f o c α En hf ho hc he => ?_⟩
 have h6 := h5 i f hf
 have hi : i < xs.length := by rw [h4]; exact (Array.getElem?_eq_some_iff.1 hf).1
 rw [List.getElem?_eq_getElem hi, ho, hc] at h6
 exact he _ _ _ h6
theorem ok_slice {t e : TypeId} {r : Reach} {b : Nat} {v : Value} (ht : P.underlying t = some (.slice e)) (hv : Value.okWide P w r b t v) : v.cells.toList = [v] := by
 unfold Value.okWide at hv
 rw [ht] at hv
 cases v <;> first | rfl | (simp [Cell.okWide, Cell.ok, ht] at hv; done)
theorem laidOut : laidOutB Tryz.prog = true := by kernel_rfl
theorem Ext.trod {t : TypeId} (hr : Tryz.prog.readableRec t = true) (hrow : t < Tryz.prog.types.size) {W W' : World} {v : Value} {d : DataW H} {ps : List MemPlace} (h : DataW.Trod enc Tryz.prog W 0 (fun _ => true) true t v d ps) (hE : Ext W W')
 (hlt : ∀ x ∈ ps, x.block < W.heap.size) (sp : Nat → Bool) (hsp : ∀ x ∈ ps, sp x.block = true) : DataW.Trod enc Tryz.prog W' 0 sp true t v d ps :=
 WideElems.Trod_stays laidOut hr hrow h (fun x hx => hE.below.same (hlt x hx)) hsp
end
end
section
section
variable {α : Type} {sz : Nat} {En : List Value → α → Prop} {cs cs' : List Value} {l l' : List α}
theorem RowOf.append (h : RowOf sz En cs l) (h' : RowOf sz En cs' l') : RowOf sz En (cs ++ cs') (l ++ l') := by
 obtain ⟨a, rfl, a1, a2⟩ := h
 obtain ⟨b, rfl, b1, b2⟩ := h'
 refine ⟨a ++ b, by simp, by simp [a1, b1], fun j hj hj' => ?_⟩
 by_cases hjl : j < l.length
 · rw [List.getElem_append_left (by omega), List.getElem_append_left hjl]
   exact a2 j hjl (by omega)
 · simp only [List.length_append] at hj hj'
   rw [List.getElem_append_right (by omega), List.getElem_append_right (by omega)]
   simp only [a1]
   exact b2 (j - l.length) (by omega) (by omega)
theorem flat_drop : ∀ (css : List (List Value)) (i : Nat), (∀ j (h : j < css.length), css[j].length = sz) → i ≤ css.length → css.flatten.drop (i * sz) = (css.drop i).flatten ∧ css.flatten.take (i * sz) = (css.take i).flatten
 | css, 0, _, _ => by simp
 | [], i + 1, _, h => by simp at h
 | c :: css, i + 1, h, hi => by
   have h0 := h 0 (by simp)
   simp only [List.getElem_cons_zero] at h0
   obtain ⟨h1, h2⟩ := flat_drop css i (fun j hj => by have := h (j + 1) (by simp; omega); simpa using this) (by simpa using hi)
   have e : (i + 1) * sz = c.length + i * sz := by rw [h0, Nat.add_mul]; omega
   simp only [List.flatten_cons, List.drop_succ_cons, List.take_succ_cons]
   rw [e, List.drop_append, List.take_append]
   simp only [Nat.add_sub_cancel_left, List.drop_of_length_le (show c.length ≤ c.length + i * sz by omega), List.take_of_length_le (show c.length ≤ c.length + i * sz by omega), List.nil_append, h1, h2]
   exact ⟨trivial, trivial⟩
theorem RowOf.drop (h : RowOf sz En cs l) (i : Nat) (hi : i ≤ l.length) : RowOf sz En (cs.drop (i * sz)) (l.drop i) := by
 obtain ⟨a, rfl, a1, a2⟩ := h
 rw [(flat_drop a i (fun j hj => (a2 j (by omega) hj).1) (by omega)).1]
 refine ⟨_, rfl, by simp [a1], fun j hj hj' => ?_⟩
 simp only [List.length_drop] at hj hj'
 simp only [List.getElem_drop]
 exact a2 (i + j) (by omega) (by omega)
theorem RowOf.take (h : RowOf sz En cs l) (i : Nat) (hi : i ≤ l.length) : RowOf sz En (cs.take (i * sz)) (l.take i) := by
 obtain ⟨a, rfl, a1, a2⟩ := h
 rw [(flat_drop a i (fun j hj => (a2 j (by omega) hj).1) (by omega)).2]
 refine ⟨_, rfl, by simp [a1], fun j hj hj' => ?_⟩
 simp only [List.length_take] at hj hj'
 simp only [List.getElem_take]
 exact a2 j (by omega) (by omega)
theorem RowOf.one {c : List Value} {x : α} (h : En c x) (hc : c.length = sz) : RowOf sz En c [x] := ⟨[c], by simp, rfl, fun j hj hj' => by
 obtain rfl : j = 0 := by simp at hj; omega
 exact ⟨hc, h⟩⟩
theorem RowOf.all {p : Value → Prop} (h : RowOf sz En cs l) (hp : ∀ c x, En c x → ∀ u ∈ c, p u) : ∀ u ∈ cs, p u := by
 obtain ⟨a, rfl, a1, a2⟩ := h
 intro u hu
 obtain ⟨c, hc, huc⟩ := List.mem_flatten.1 hu
 obtain ⟨j, hj, rfl⟩ := List.getElem_of_mem hc
 exact hp _ _ (a2 j (by omega) hj).2 u huc
theorem SlV.row {w : World} {A : Nat → Prop} {At : Nat → Nat → α → Prop} {v : Value} (h : SlV A At sz v l) (hat : ∀ b o x, A b → At b o x → ∃ c, En c x ∧ c.length = sz ∧ ∀ j, j < sz → w.cell? ⟨b, o + j, none⟩ = c[j]?) :
 ∃ cs, RowOf sz En cs l ∧ SrcCells w v l.length cs := by
 rcases h with ⟨a, rfl, rfl⟩ | ⟨b, o, c, rfl, h1, h2, h3⟩
 · refine ⟨[], RowOf.nil, ?_⟩
   cases a with
   | none => exact .inl ⟨rfl, rfl, rfl⟩
   | some ad => exact .inr ⟨ad, 0, rfl, fun j u hu => by simp at hu⟩
 · obtain ⟨css, k1, k2⟩ := list_of_each (p := fun i (c : List Value) => ∃ h : i < l.length, En c l[i] ∧ c.length = sz ∧ ∀ j, j < sz → w.cell? ⟨b, o + i * sz + j, none⟩ = c[j]?) l.length fun i hi => by
    obtain ⟨c, e1, e2, e3⟩ := hat b _ _ h2 (h3 i hi)
    exact ⟨c, hi, e1, e2, e3⟩
   refine ⟨css.flatten, ⟨css, rfl, k1, fun j hj hj' => ?_⟩, .inr ⟨⟨b, o, none⟩, c, rfl, fun j u hu => ?_⟩⟩
   · obtain ⟨_, e1, e2, _⟩ := k2 j hj'
     exact ⟨e2, e1⟩
   · have hlen : css.flatten.length = css.length * sz := flat_len_uniform css fun j hj => let ⟨_, _, e2, _⟩ := k2 j hj; e2
     have hj : j < css.length * sz := by rw [← hlen]; exact (List.getElem?_eq_some_iff.1 hu).1
     have hsz : 0 < sz := by rcases Nat.eq_zero_or_pos sz with h | h; rw [h] at hj; omega; exact h
     have hq : j / sz < css.length := Nat.div_lt_of_lt_mul (by rwa [Nat.mul_comm] at hj)
     obtain ⟨_, e1, e2, e3⟩ := k2 (j / sz) hq
     have hm := Nat.mod_lt j hsz
     have hj' : j / sz * sz + j % sz = j := by rw [Nat.mul_comm]; exact Nat.div_add_mod j sz
     have hg := flat_get css (j / sz) (j % sz) hq (fun j hj => let ⟨_, _, e2, _⟩ := k2 j hj; e2) hm
     rw [hj'] at hg
     rw [Addr.add_lit, ← hu, hg, ← e3 _ hm]
     congr 2
     omega
theorem SlV.of_win {w : World} {base n : Nat} {v : Value} {At : Nat → Nat → α → Prop} (h : Win w base sz v n cs) (hn : n = l.length) (hr : RowOf sz En cs l)
 (hat : ∀ b o c x, En c x → c.length = sz → (∀ i, i < sz → w.cell? ⟨b, o + i, none⟩ = c[i]?) → At b o x) : SlV (fun b => base ≤ b ∧ b < w.heap.size) At sz v l := by
 subst hn
 rcases h.2 with ⟨rfl, h0⟩ | ⟨g, o, cap, rfl, h1, h2, h3, h4, h5, h6⟩
 · exact .inl ⟨none, rfl, List.eq_nil_of_length_eq_zero (by omega)⟩
 · refine .inr ⟨g, o, cap, rfl, h2, ⟨h1, h4⟩, fun j hj => ?_⟩
   obtain ⟨c, c1, c2, c3⟩ := hr.get j hj
   refine hat _ _ c _ c2 c1 fun i hi => ?_
   have hlt : j * sz + i < cs.length := by
    have : (j + 1) * sz ≤ l.length * sz := Nat.mul_le_mul_right _ hj
    rw [Nat.add_mul] at this
    rw [h.1]; omega
   have := h6 (j * sz + i) _ (List.getElem?_eq_getElem hlt)
   rw [← Nat.add_assoc] at this
   rw [this, ← List.getElem?_eq_getElem hlt]
   exact c3 i hi
end
theorem SlV.drop {α : Type} {A : Nat → Prop} {At : Nat → Nat → α → Prop} {sz b o c : Nat} {l : List α} (h : SlV A At sz (.slice (some ⟨b, o, none⟩) l.length c) l) (i : Nat) (hi : i ≤ l.length) :
 SlV A At sz (.slice (if c = i then some ⟨b, o, none⟩ else some ⟨b, o + i * sz, none⟩) (l.length - i) (c - i)) (l.drop i) := by
 rcases h with ⟨a, h1, rfl⟩ | ⟨b', o', c', h1, h2, h3, h4⟩
 · obtain rfl : i = 0 := by simpa using hi
   simp only [List.length_nil, Value.slice.injEq] at h1
   obtain ⟨rfl, _, rfl⟩ := h1
   exact .inl ⟨_, rfl, rfl⟩
 · simp only [Value.slice.injEq, Option.some.injEq, Addr.mk.injEq] at h1
   obtain ⟨⟨rfl, rfl, _⟩, _, rfl⟩ := h1
   by_cases hc : c = i
   · subst hc
     rw [if_pos rfl]
     refine .inl ⟨_, by congr 1 <;> omega, List.drop_of_length_le h2⟩
   · rw [if_neg hc]
     refine .inr ⟨b, o + i * sz, c - i, by rw [List.length_drop], by rw [List.length_drop]; omega, h3, fun j hj => ?_⟩
     rw [List.length_drop] at hj
     rw [List.getElem_drop, show o + i * sz + j * sz = o + (i + j) * sz by rw [Nat.add_mul]; omega]
     exact h4 (i + j) (by omega)
theorem Win.empty {w : World} {base sz g : Nat} (hb : base ≤ g) (hg : g < w.heap.size) : Win w base sz (.slice (some ⟨g, 0, none⟩) 0 0) 0 [] :=
 ⟨by simp, .inr ⟨g, 0, 0, rfl, hb, Nat.le_refl _, Nat.zero_le _, hg, fun j hj => by omega, fun j u hu => by simp at hu⟩⟩
theorem Win.take {w : World} {base sz n cap o g : Nat} {cs : List Value} (h : Win w base sz (.slice (some ⟨g, o, none⟩) n cap) n cs) (i : Nat) (hi : i ≤ n) : Win w base sz (.slice (some ⟨g, o, none⟩) i cap) i (cs.take (i * sz)) := by
 obtain ⟨h0, ⟨h, _⟩ | ⟨g', o', cap', h, h1, h2, h3, h4, h5, h6⟩⟩ := h
 · cases h
 · cases h
   refine ⟨by rw [List.length_take, h0]; exact Nat.min_eq_left (Nat.mul_le_mul_right _ hi), .inr ⟨g, o, _, rfl, h1, by omega, h3, h4, h5, fun j u hu => h6 j u ?_⟩⟩
   rw [List.getElem?_take] at hu
   split at hu
   · exact hu
   · cases hu
end
section
structure Stopped (p : Prop) : Prop where
 out : p
theorem standing {p : Prop} (h : Stopped p) : p := h.out
end
end Go.Proofs.YtoadjbgpfihoiaaGreatDoor
