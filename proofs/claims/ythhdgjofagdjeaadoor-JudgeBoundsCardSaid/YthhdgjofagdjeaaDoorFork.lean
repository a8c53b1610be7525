/- Regions that draw their order and hold two deeds that no edge orders: a plan with forks. No program is named here. -/
import Derived.Test.YthhdgjofagdjeaaDoorPlanB
set_option linter.unusedVariables false
set_option linter.unusedSimpArgs false
namespace Go.Proofs.YthhdgjofagdjeaaDoor
open Go.RowKit

section
variable {P : Program} {ops : Array Oper} {Q : Exit → Act → World → Prop} {md : Region.Mode} {C : World → Prop} {ls es : List Nat}
structure AnyG (P : Program) (md : Region.Mode) (ops : Array Oper) (Q : Exit → Act → World → Prop) (C : World → Prop) (ls es : List Nat) (fuel : Nat) (listed : Array Bool) (a : Act) (w : World) : Prop where
  out : wpAnyT P md ops Q C ls es fuel listed a w
def closedOK (md : Region.Mode) (ops : Array Oper) (listed : Array Bool) : Bool := (List.range ops.size).all fun j => !(listed.getD j false) || ((ops[j]?).map fun o => o.after.all fun e => !Region.binds md e || listed.getD e.on false).getD true
theorem closed_of {listed : Array Bool} (h : closedOK md ops listed = true) : Closed md ops listed := by
  intro j o ho hj e he hb
  unfold closedOK at h
  rw [List.all_eq_true] at h
  have hlt : j < ops.size := by
    rcases Nat.lt_or_ge j ops.size with h' | h'
    · exact h'
    · rw [Array.getElem?_eq_none h'] at ho; cases ho
  have h1 := h j (List.mem_range.2 hlt)
  rw [hj, Bool.not_true, Bool.false_or, ho, Option.map_some, Option.getD_some, Array.all_eq_true'] at h1
  have h2 := h1 e he
  rw [hb, Bool.not_true, Bool.false_or] at h2
  exact h2
def planOKf (md : Region.Mode) (ops : Array Oper) (ls es : List Nat) : Array Bool → List (Nat × Nat) → Bool
  | listed, (k, i) :: r =>
    (if k == 2 then Region.ready md ops listed == [i] && es.contains i else Region.free md ops listed i && (Region.ready md ops listed).contains i && (k == 0 || (k == 1 && ls.contains i) || (k == 3 && es.all fun j => anc2 md ops ops.size j i))) && planOKf md ops ls es (listed.setIfInBounds i true) r
  | _, [] => true
def afterL (listed : Array Bool) : List (Nat × Nat) → Array Bool
  | [] => listed
  | (_, i) :: r => afterL (listed.setIfInBounds i true) r
theorem plan_soundF (hs : Region.noSelect ops = true) (hQ : ∀ c a w d v, Q (.panic c) (Act.put a d v) w → Q (.panic c) a w) (T : Act → World → Prop) (L : Array Bool) (f : Nat) (hT : ∀ a w, T a w → wpAnyT P md ops Q C ls es f L a w) :
    ∀ (pl : List (Nat × Nat)) (fuel : Nat) (listed : Array Bool) (a : Act) (w : World), planOKf md ops ls es listed pl = true → afterL listed pl = L → f + pl.length = fuel → Closed md ops listed → C w →
    wpPlan P ops Q C T (planL ops pl) a w → wpAnyT P md ops Q C ls es fuel listed a w
  | [], fuel, listed, a, w, hp, hL, hf, _, _, h => by
    obtain rfl : f = fuel := by simpa using hf
    obtain rfl : listed = L := hL
    exact hT _ _ h
  | (k, i) :: r, 0, _, _, _, _, _, hf, _, _, _ => by simp at hf
  | (k, i) :: r, fuel + 1, listed, a, w, hp, hL, hf, hc, hC, h => by
    simp only [planOKf, Bool.and_eq_true] at hp
    obtain ⟨hk, hp⟩ := hp
    have hf' : f + r.length = fuel := by simp at hf; omega
    have hready : i ∈ Region.ready md ops listed := by
      split at hk
      · have : Region.ready md ops listed = [i] := by
          simp only [Bool.and_eq_true, beq_iff_eq] at hk
          exact hk.1
        rw [this]; simp
      · simp only [Bool.and_eq_true] at hk
        simpa using hk.1.2
    obtain ⟨_, o, ho, _⟩ := mem_ready.1 hready
    simp only [planL, ho] at h
    unfold wpPlan at h
    have ih := fun a' w' hC' h' => plan_soundF hs hQ T L f hT r fuel (listed.setIfInBounds i true) a' w' hp hL hf' (hc.list hready) hC' h'
    by_cases k2 : k = 2
    · simp only [k2, beq_self_eq_true, if_true, Bool.and_eq_true, beq_iff_eq] at hk
      obtain ⟨hk, hei⟩ := hk
      refine ⟨fun h0 => (by rw [hk] at h0; cases h0), fun j hj => ?_⟩
      rw [hk] at hj
      obtain rfl : j = i := by simpa using hj
      unfold wpOp
      simp only [ho]
      split
      · rename_i hw
        rw [if_pos hw] at h
        rw [k2, if_neg (by decide), if_neg (by decide), if_neg (by decide)] at h
        exact .inl (Oper.wp_mono (fun a' w' h' => ⟨⟨fun he => (by rw [hei] at he; cases he), fun _ _ => h'.1⟩, ih a' w' h'.1 h'.2⟩) h)
      · rename_i hw
        rw [if_neg hw] at h
        exact ⟨⟨fun _ => by first | rfl | trivial, fun _ h => h⟩, ih _ _ hC h⟩
    · have hkf : (k == 2) = false := by simpa using k2
      simp only [hkf, Bool.false_eq_true, if_false, Bool.and_eq_true] at hk
      obtain ⟨⟨hfree, _⟩, hls⟩ := hk
      have fin : ∀ (S : World → Prop) (v : Value), (∀ w, (i ∈ ls → C w) → S w) → YieldsIf P ops S o v a → wpPlan P ops Q C T (planL ops r) (a.put o.dst v) w → wpAnyT P md ops Q C ls es (fuel + 1) listed a w :=
        fun S v hS hy h' => wpAnyT_first ho (Region.noSelect_spec hs) (fun c a w => hQ c a w _ _) hS fuel listed a w hc (Region.free_spec ho hfree) hready hy (fun _ => hC) (ih _ _ hC h')
      by_cases hw : Region.wanted o (yielded ops a.tmps) = true
      · rw [if_pos hw] at h
        by_cases k0 : k = 0
        · rw [if_pos k0] at h
          obtain ⟨v, hy, h'⟩ := quietV_yields hw h
          exact fin _ v (fun _ _ => trivial) hy h'
        · rw [if_neg k0] at h
          have k0' : (k == 0) = false := by simpa using k0
          simp only [k0', Bool.false_or, Bool.or_eq_true, Bool.and_eq_true, beq_iff_eq] at hls
          rcases hls with hls | hls
          · have hl : i ∈ ls := by simpa using hls.2
            rw [if_pos hls.1] at h
            obtain ⟨v, hy, h'⟩ := quietV_yields hw h
            exact fin _ v (fun w h => h hl) hy h'
          · rw [hls.1, if_neg (by decide), if_pos rfl] at h
            obtain ⟨v, hy, h'⟩ := quietV_yields hw h
            exact wpAnyT_exact ho (Region.noSelect_spec hs) (fun c a w => hQ c a w _ _) (fun j hj => anc2_anc (List.all_eq_true.1 hls.2 j hj)) fuel listed a hc (Region.free_spec ho hfree) hready hy (ih _ _ hC h')
      · rw [if_neg hw] at h
        exact fin (fun _ => True) undef (fun _ _ => trivial) (.inr ⟨by simpa using hw, rfl⟩) h
/-- a piece of the plan that ends at a fork -/
theorem any_seg {listed L : Array Bool} {a : Act} {w : World} {fuel : Nat} (pl : List (Nat × Nat)) (f : Nat) (hs : Region.noSelect ops = true) (hQ : ∀ c a w d v, Q (.panic c) (Act.put a d v) w → Q (.panic c) a w)
    (hc : closedOK md ops listed = true) (hp : planOKf md ops ls es listed pl = true) (hL : afterL listed pl = L) (hf : f + pl.length = fuel) (hC : C w)
    (h : Pl P ops Q C (AnyG P md ops Q C ls es f L) (planL ops pl) a w) : AnyG P md ops Q C ls es fuel listed a w :=
  ⟨plan_soundF hs hQ (AnyG P md ops Q C ls es f L) L f (fun _ _ h => h.out) pl fuel listed a w hp hL hf (closed_of hc) hC h.out⟩
/-- the last piece -/
theorem any_end {listed : Array Bool} {a : Act} {w : World} {fuel : Nat} (pl : List (Nat × Nat)) (tl : List Nat) (hs : Region.noSelect ops = true) (hQ : ∀ c a w d v, Q (.panic c) (Act.put a d v) w → Q (.panic c) a w)
    (hc : closedOK md ops listed = true) (hp : planOK2 md ops ls es tl listed pl = true) (hf : pl.length + tl.length = fuel) (hmap : tl.map (ops[·]?) = (tailL ops tl).map some) (hC : C w)
    (h : Pl P ops Q C (wpList P ops Q (tailL ops tl)) (planL ops pl) a w) : AnyG P md ops Q C ls es fuel listed a w :=
  ⟨plan_sound hs (fun c a w o v _ => hQ c a w o.dst v) tl _ hmap pl fuel listed a w (plan2 hp) hf (closed_of hc) hC h.out⟩
/-- two deeds, in either order -/
theorem any_fork {listed : Array Bool} {a : Act} {w : World} {f : Nat} (i j : Nat) {oi oj : Oper} (hr : Region.ready md ops listed = [i, j]) (he : (es.contains i && es.contains j) = true) (hi : ops[i]? = some oi) (hj : ops[j]? = some oj)
    (wi : Region.wanted oi (yielded ops a.tmps) = true) (wj : Region.wanted oj (yielded ops a.tmps) = true)
    (h1 : ∀ K : Act → World → Prop, (∀ a w, (C w ∧ AnyG P md ops Q C ls es f (listed.setIfInBounds i true) a w) → K a w) → oi.wp P a w K Q)
    (h2 : ∀ K : Act → World → Prop, (∀ a w, (C w ∧ AnyG P md ops Q C ls es f (listed.setIfInBounds j true) a w) → K a w) → oj.wp P a w K Q) : AnyG P md ops Q C ls es (f + 1) listed a w := by
  rw [Bool.and_eq_true] at he
  refine ⟨fun h0 => (by rw [hr] at h0; cases h0), fun k hk => ?_⟩
  rw [hr, List.mem_cons, List.mem_singleton] at hk
  rcases hk with rfl | rfl
  · unfold wpOp
    simp only [hi]
    rw [if_pos wi]
    exact .inl (h1 _ fun a' w' h' => ⟨⟨fun h => (by rw [he.1] at h; cases h), fun _ _ => h'.1⟩, h'.2.out⟩)
  · unfold wpOp
    simp only [hj]
    rw [if_pos wj]
    exact .inl (h2 _ fun a' w' h' => ⟨⟨fun h => (by rw [he.2] at h; cases h), fun _ _ => h'.1⟩, h'.2.out⟩)
/-- THE RULE: a region that draws its order, by a plan with forks -/
theorem wp_region_forks {id : Nat} {a : Act} {w : World} {l : List Oper} (ls es : List Nat) (C : World → Prop) (hm : P.follows .mixedOrders = true)
    (h : AnyG P .any l.toArray Q C ls es l.toArray.size (Array.replicate l.toArray.size false) a w.drew) : (Code.region id l.toArray true).wp P Q a w :=
  wp_region_any hm (wpAny_of_T _ _ _ _ h.out)
end
end Go.Proofs.YthhdgjofagdjeaaDoor
