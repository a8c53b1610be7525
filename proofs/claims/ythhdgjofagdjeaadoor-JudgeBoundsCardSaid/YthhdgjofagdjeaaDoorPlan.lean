/- A region that draws its order of evaluation: reads are taken as early as may be, whatever calls or writes goes in its one order. One walk of that plan serves every order. No program is named here. -/
import Derived.Test.YthhdgjofagdjeaaDoorBase
import Derived.Deep.RegionHeld3
import Derived.Defers
set_option linter.unusedVariables false
set_option linter.unusedSimpArgs false
namespace Go.Proofs.YthhdgjofagdjeaaDoor
open Go.RowKit

/-- must number j wait for number i? -/
def anc (md : Region.Mode) (ops : Array Oper) : Nat → Nat → Nat → Bool
  | 0, _, _ => false
  | n + 1, j, i => ((ops[j]?).map fun o => o.after.any fun e => Region.binds md e && (e.on == i || anc md ops n e.on i)).getD false
/-- may it come up ahead of one of the loads 'ls'? -/
def needs (md : Region.Mode) (ops : Array Oper) (ls : List Nat) (j : Nat) : Bool := ls.any fun i => i != j && !anc md ops ops.size j i

section
variable {P : Program} {ops : Array Oper} {Q : Exit → Act → World → Prop} {md : Region.Mode} {C : World → Prop} {ls es : List Nat}

def Closed (md : Region.Mode) (ops : Array Oper) (listed : Array Bool) : Prop :=
  ∀ j o, ops[j]? = some o → listed.getD j false = true → ∀ e ∈ o.after, Region.binds md e = true → listed.getD e.on false = true

theorem anc_listed {listed : Array Bool} (hc : Closed md ops listed) : ∀ (n j i : Nat) (o : Oper), ops[j]? = some o → (∀ e ∈ o.after, Region.binds md e = true → listed.getD e.on false = true) → anc md ops n j i = true → listed.getD i false = true
  | 0, _, _, _, _, _, h => by cases h
  | n + 1, j, i, o, ho, hd, h => by
    simp only [anc, ho, Option.map_some, Option.getD_some, Array.any_eq_true'] at h
    obtain ⟨e, he, h2⟩ := h
    simp only [Bool.and_eq_true, Bool.or_eq_true, beq_iff_eq] at h2
    obtain ⟨hb, h3⟩ := h2
    have hl := hd e he hb
    rcases h3 with h3 | h3
    · rw [← h3]; exact hl
    · cases ho' : ops[e.on]? with
      | none => cases n <;> simp [anc, ho'] at h3
      | some o' => exact anc_listed hc n e.on i o' ho' (hc e.on o' ho' hl) h3

theorem needs_of_ready {listed : Array Bool} (hc : Closed md ops listed) {i j : Nat} (hi : i ∈ ls) (hj : j ∈ Region.ready md ops listed) (hne : j ≠ i) (hl : listed.getD i true = false) : needs md ops ls j = true := by
  obtain ⟨_, o, ho, hall⟩ := mem_ready.1 hj
  unfold needs
  rw [List.any_eq_true]
  refine ⟨i, hi, ?_⟩
  simp only [Bool.and_eq_true, bne_iff_ne, ne_eq, Bool.not_eq_true', hne.symm, not_false_eq_true, true_and]
  cases ha : anc md ops ops.size j i with
  | false => rfl
  | true =>
    have h1 := anc_listed hc _ j i o ho hall ha
    have hlt : i < listed.size := by
      rcases Nat.lt_or_ge i listed.size with h' | h'
      · exact h'
      · simp [Array.getElem?_eq_none h'] at h1
    simp [hlt] at h1 hl
    rw [hl] at h1; cases h1

theorem Closed.list {listed : Array Bool} (hc : Closed md ops listed) {j : Nat} (hj : j ∈ Region.ready md ops listed) : Closed md ops (listed.setIfInBounds j true) := by
  intro k o ho hk e he hb
  obtain ⟨_, oj, hoj, hall⟩ := mem_ready.1 hj
  by_cases hkj : j = k
  · subst hkj
    rw [hoj] at ho; cases ho
    exact getD_set_true (hall e he hb)
  · rw [getD_set_ne false hkj] at hk
    exact getD_set_true (hc k o ho hk e he hb)

def wpAnyT (P : Program) (md : Region.Mode) (ops : Array Oper) (Q : Exit → Act → World → Prop) (C : World → Prop) (ls es : List Nat) : Nat → Array Bool → Act → World → Prop
  | 0, listed, a, w => Region.ready md ops listed = [] ∧ Q .normal a w
  | fuel + 1, listed, a, w =>
    (Region.ready md ops listed = [] → Q .normal a w) ∧
    ∀ i ∈ Region.ready md ops listed, wpOp P ops Q i (fun a' w' => ((es.contains i = false → w' = w) ∧ (needs md ops ls i = true → C w → C w')) ∧ wpAnyT P md ops Q C ls es fuel (listed.setIfInBounds i true) a' w') a w

theorem wpAny_of_T : ∀ (fuel : Nat) (listed : Array Bool) (a : Act) (w : World), wpAnyT P md ops Q C ls es fuel listed a w → wpAny P md ops Q fuel listed a w
  | 0, _, _, _, h => h
  | fuel + 1, _, _, _, h => ⟨h.1, fun i hi => wpOp_mono (fun a' w' h' => wpAny_of_T fuel _ a' w' h'.2) (h.2 i hi)⟩

/-- a read may be taken first -/
theorem wpAnyT_first {S : World → Prop} {i : Nat} {oi : Oper} {v : Value} (hi : ops[i]? = some oi) (hsel : ∀ (j : Nat) (o : Oper) cs b, ops[j]? = some o → o.op ≠ .select cs b)
    (hQ : ∀ c a w, Q (.panic c) (a.put oi.dst v) w → Q (.panic c) a w) (hS : ∀ w, (i ∈ ls → C w) → S w) :
    ∀ (fuel : Nat) (listed : Array Bool) (a : Act) (w : World), Closed md ops listed →
      (∀ j oj, ops[j]? = some oj → j ≠ i → listed.getD j true = false → (∀ e ∈ oj.after, Region.binds md e = true → e.on ≠ i) → oi.apart ops oj = true) →
      i ∈ Region.ready md ops listed → YieldsIf P ops S oi v a → (i ∈ ls → C w) →
      wpAnyT P md ops Q C ls es fuel (listed.setIfInBounds i true) (a.put oi.dst v) w → wpAnyT P md ops Q C ls es (fuel + 1) listed a w := by
  intro fuel
  induction fuel with
  | zero =>
    intro listed a w hc _ hr hy hC H
    refine ⟨fun h => (by rw [h] at hr; cases hr), fun j hj => ?_⟩
    by_cases hji : j = i
    · subst hji; exact hy.wpOp hi (hS w hC) ⟨⟨fun _ => rfl, fun _ h => h⟩, H⟩
    · have := ready_mono hj hji
      rw [H.1] at this
      cases this
  | succ fuel ih =>
    intro listed a w hc hfree hr hy hC H
    refine ⟨fun h => (by rw [h] at hr; cases hr), fun j hj => ?_⟩
    by_cases hji : j = i
    · subst hji; exact hy.wpOp hi (hS w hC) ⟨⟨fun _ => rfl, fun _ h => h⟩, H⟩
    · have h1 := H.2 j (ready_mono hj hji)
      obtain ⟨hjun, oj, hoj, hall⟩ := mem_ready.1 hj
      have hiun := (mem_ready.1 hr).1
      have hnot : ∀ e ∈ oj.after, Region.binds md e = true → e.on ≠ i := fun e he hb heq => by
        have h1 := hall e he hb
        have h0 := hiun
        rw [heq] at h1
        rcases Nat.lt_or_ge i listed.size with h' | h'
        · simp [h'] at h0 h1; rw [h0] at h1; cases h1
        · simp [Array.getElem?_eq_none h'] at h1
      have h2 := wpOp_putIf hoj (hfree j oj hoj hji hjun hnot) (fun cs b => hsel i oi cs b hi) (fun cs b => hsel j oj cs b hoj) hQ hy h1
      have hfree' : ∀ k ok, ops[k]? = some ok → k ≠ i → (listed.setIfInBounds j true).getD k true = false →
          (∀ e ∈ ok.after, Region.binds md e = true → e.on ≠ i) → oi.apart ops ok = true := fun k ok hk hki hun hno => by
        refine hfree k ok hk hki ?_ hno
        by_cases hjk : j = k
        · subst hjk; exact hjun
        · rw [getD_set_ne true hjk] at hun; exact hun
      refine wpOp_mono (fun a' w' h3 => ?_) h2
      obtain ⟨hy', hC', hT'⟩ := h3
      refine ⟨hC', ?_⟩
      refine ih (listed.setIfInBounds j true) a' w' (hc.list hj) hfree' (ready_mono hr (Ne.symm hji)) hy' (fun hls => hC'.2 (needs_of_ready hc hls hj hji hiun) (hC hls)) ?_
      rw [Array.setIfInBounds_comm _ _ hji]
      exact hT'

/-- a load for which whatever does something waits is done in the world at hand -/
theorem wpAnyT_exact {i : Nat} {oi : Oper} {v : Value} {w : World} (hi : ops[i]? = some oi) (hsel : ∀ (j : Nat) (o : Oper) cs b, ops[j]? = some o → o.op ≠ .select cs b)
    (hQ : ∀ c a w, Q (.panic c) (a.put oi.dst v) w → Q (.panic c) a w) (hes : ∀ j ∈ es, anc md ops ops.size j i = true) :
    ∀ (fuel : Nat) (listed : Array Bool) (a : Act), Closed md ops listed →
      (∀ j oj, ops[j]? = some oj → j ≠ i → listed.getD j true = false → (∀ e ∈ oj.after, Region.binds md e = true → e.on ≠ i) → oi.apart ops oj = true) →
      i ∈ Region.ready md ops listed → YieldsIf P ops (fun x => x = w) oi v a →
      wpAnyT P md ops Q C ls es fuel (listed.setIfInBounds i true) (a.put oi.dst v) w → wpAnyT P md ops Q C ls es (fuel + 1) listed a w := by
  intro fuel
  induction fuel with
  | zero =>
    intro listed a hc _ hr hy H
    refine ⟨fun h => (by rw [h] at hr; cases hr), fun j hj => ?_⟩
    by_cases hji : j = i
    · subst hji; exact hy.wpOp hi rfl ⟨⟨fun _ => rfl, fun _ h => h⟩, H⟩
    · have := ready_mono hj hji
      rw [H.1] at this
      cases this
  | succ fuel ih =>
    intro listed a hc hfree hr hy H
    refine ⟨fun h => (by rw [h] at hr; cases hr), fun j hj => ?_⟩
    by_cases hji : j = i
    · subst hji; exact hy.wpOp hi rfl ⟨⟨fun _ => rfl, fun _ h => h⟩, H⟩
    · have h1 := H.2 j (ready_mono hj hji)
      obtain ⟨hjun, oj, hoj, hall⟩ := mem_ready.1 hj
      have hiun := (mem_ready.1 hr).1
      have hnot : ∀ e ∈ oj.after, Region.binds md e = true → e.on ≠ i := fun e he hb heq => by
        have h1 := hall e he hb
        have h0 := hiun
        rw [heq] at h1
        rcases Nat.lt_or_ge i listed.size with h' | h'
        · simp [h'] at h0 h1; rw [h0] at h1; cases h1
        · simp [Array.getElem?_eq_none h'] at h1
      have hje : es.contains j = false := by
        cases hje : es.contains j with
        | false => rfl
        | true =>
          have := anc_listed hc _ j i oj hoj hall (hes j (by simpa using hje))
          have hlt : i < listed.size := by
            rcases Nat.lt_or_ge i listed.size with h' | h'
            · exact h'
            · simp [Array.getElem?_eq_none h'] at this
          simp [hlt] at this hiun
          rw [hiun] at this; cases this
      have h2 := wpOp_putIf hoj (hfree j oj hoj hji hjun hnot) (fun cs b => hsel i oi cs b hi) (fun cs b => hsel j oj cs b hoj) hQ hy h1
      have hfree' : ∀ k ok, ops[k]? = some ok → k ≠ i → (listed.setIfInBounds j true).getD k true = false →
          (∀ e ∈ ok.after, Region.binds md e = true → e.on ≠ i) → oi.apart ops ok = true := fun k ok hk hki hun hno => by
        refine hfree k ok hk hki ?_ hno
        by_cases hjk : j = k
        · subst hjk; exact hjun
        · rw [getD_set_ne true hjk] at hun; exact hun
      refine wpOp_mono (fun a' w' h3 => ?_) h2
      obtain ⟨hy', hC', hT'⟩ := h3
      have hw := hC'.1 hje
      subst hw
      refine ⟨hC', ih (listed.setIfInBounds j true) a' (hc.list hj) hfree' (ready_mono hr (Ne.symm hji)) hy' ?_⟩
      rw [Array.setIfInBounds_comm _ _ hji]
      exact hT'

/-! ### the plan: which comes up next: 0: a value that hangs on no memory; 1: a load (of the class C); 2: whatever does something, alone ready -/
def forcedOK (md : Region.Mode) (ops : Array Oper) (ls es : List Nat) : Array Bool → List Nat → Bool
  | listed, i :: tl => Region.ready md ops listed == [i] && !needs md ops ls i && es.contains i && forcedOK md ops ls es (listed.setIfInBounds i true) tl
  | listed, [] => Region.ready md ops listed == []
def planOK (md : Region.Mode) (ops : Array Oper) (ls es : List Nat) (tl : List Nat) : Array Bool → List (Nat × Nat) → Bool
  | listed, (k, i) :: r =>
    (if k == 2 then Region.ready md ops listed == [i] && es.contains i else Region.free md ops listed i && (Region.ready md ops listed).contains i && (k == 0 || (k == 1 && ls.contains i) || (k == 3 && es.all fun j => anc md ops ops.size j i))) && planOK md ops ls es tl (listed.setIfInBounds i true) r
  | listed, [] => forcedOK md ops ls es listed tl

/-- one value, in every world of S -/
def quietV (P : Program) (o : Oper) (a : Act) (S : World → Prop) (K : Act → Prop) : Prop := ∃ v, (∀ w, S w → (execOp a.eval o).run P w = .ok (.value v) w) ∧ K (a.put o.dst v)

def wpPlan (P : Program) (ops : Array Oper) (Q : Exit → Act → World → Prop) (C : World → Prop) (tail : Act → World → Prop) : List (Nat × Oper) → Act → World → Prop
  | [], a, w => tail a w
  | (k, o) :: r, a, w =>
    if Region.wanted o (yielded ops a.tmps) then
      (if k = 0 then quietV P o a (fun _ => True) (fun a' => wpPlan P ops Q C tail r a' w)
       else if k = 1 then quietV P o a C (fun a' => wpPlan P ops Q C tail r a' w)
       else if k = 3 then quietV P o a (fun x => x = w) (fun a' => wpPlan P ops Q C tail r a' w)
       else o.wp P a w (fun a' w' => C w' ∧ wpPlan P ops Q C tail r a' w') Q)
    else wpPlan P ops Q C tail r (a.put o.dst undef) w
def planL (ops : Array Oper) : List (Nat × Nat) → List (Nat × Oper)
  | [] => []
  | (k, i) :: r => match ops[i]? with
    | some o => (k, o) :: planL ops r
    | none => planL ops r

theorem tail_sound : ∀ (tl : List Nat) (tops : List Oper) (fuel : Nat) (listed : Array Bool) (a : Act) (w : World), tl.map (ops[·]?) = tops.map some → forcedOK md ops ls es listed tl = true → tl.length = fuel →
    wpList P ops Q tops a w → wpAnyT P md ops Q C ls es fuel listed a w
  | [], tops, 0, listed, a, w, hm, hp, _, h => by
    obtain rfl : tops = [] := by cases tops with | nil => rfl | cons _ _ => simp at hm
    exact ⟨by simpa [forcedOK] using hp, h⟩
  | i :: tl, [], _, _, _, _, hm, _, _, _ => by simp at hm
  | i :: tl, o :: tops, fuel + 1, listed, a, w, hm, hp, hf, h => by
    simp only [List.map_cons, List.cons.injEq] at hm
    simp only [forcedOK, Bool.and_eq_true, beq_iff_eq, Bool.not_eq_true'] at hp
    obtain ⟨⟨⟨hr, hn⟩, hei⟩, hp⟩ := hp
    refine ⟨fun h0 => (by rw [hr] at h0; cases h0), fun j hj => ?_⟩
    rw [hr] at hj
    obtain rfl : j = i := by simpa using hj
    unfold wpOp
    simp only [hm.1]
    unfold wpList at h
    have ih := fun a' w' => tail_sound tl tops fuel (listed.setIfInBounds j true) a' w' hm.2 hp (by simpa using hf)
    split
    · rename_i hw
      rw [if_pos hw] at h
      exact h.imp (Oper.wp_mono fun a' w' h' => ⟨⟨fun he => (by rw [hei] at he; cases he), fun hn' => (by rw [hn] at hn'; cases hn')⟩, ih a' w' h'⟩) id
    · rename_i hw
      rw [if_neg hw] at h
      exact ⟨⟨fun _ => by first | rfl | trivial, fun _ h => h⟩, ih _ _ h⟩

theorem quietV_yields {S : World → Prop} {o : Oper} {a : Act} {K : Act → Prop} (hw : Region.wanted o (yielded ops a.tmps) = true) (h : quietV P o a S K) : ∃ v, YieldsIf P ops S o v a ∧ K (a.put o.dst v) :=
  let ⟨v, h1, h2⟩ := h
  ⟨v, .inl ⟨hw, h1⟩, h2⟩

theorem plan_sound (hs : Region.noSelect ops = true) (hQ : ∀ c a w (o : Oper) v, o ∈ ops → Q (.panic c) (Act.put a o.dst v) w → Q (.panic c) a w) (tl : List Nat) (tops : List Oper) (hm : tl.map (ops[·]?) = tops.map some) :
    ∀ (pl : List (Nat × Nat)) (fuel : Nat) (listed : Array Bool) (a : Act) (w : World), planOK md ops ls es tl listed pl = true → pl.length + tl.length = fuel → Closed md ops listed → C w →
    wpPlan P ops Q C (wpList P ops Q tops) (planL ops pl) a w → wpAnyT P md ops Q C ls es fuel listed a w
  | [], fuel, listed, a, w, hp, hf, _, _, h => tail_sound tl tops fuel listed a w hm (by simpa [planOK] using hp) (by simpa using hf) h
  | (k, i) :: r, 0, _, _, _, _, hf, _, _, _ => by simp at hf
  | (k, i) :: r, fuel + 1, listed, a, w, hp, hf, hc, hC, h => by
    simp only [planOK, Bool.and_eq_true] at hp
    obtain ⟨hk, hp⟩ := hp
    have hf' : r.length + tl.length = fuel := by simp at hf; omega
    have hready : i ∈ Region.ready md ops listed := by
      split at hk
      · have : Region.ready md ops listed = [i] := by
          simp only [Bool.and_eq_true, beq_iff_eq] at hk
          exact hk.1
        rw [this]; simp
      · simp only [Bool.and_eq_true] at hk
        simpa using hk.1.2
    obtain ⟨_, o, ho, _⟩ := mem_ready.1 hready
    simp only [planL, ho] at h
    unfold wpPlan at h
    have ih := fun a' w' hC' h' => plan_sound hs hQ tl tops hm r fuel (listed.setIfInBounds i true) a' w' hp hf' (hc.list hready) hC' h'
    by_cases k2 : k = 2
    · -- what does something: it is alone
      simp only [k2, beq_self_eq_true, if_true, Bool.and_eq_true, beq_iff_eq] at hk
      obtain ⟨hk, hei⟩ := hk
      refine ⟨fun h0 => (by rw [hk] at h0; cases h0), fun j hj => ?_⟩
      rw [hk] at hj
      obtain rfl : j = i := by simpa using hj
      unfold wpOp
      simp only [ho]
      split
      · rename_i hw
        rw [if_pos hw] at h
        rw [k2, if_neg (by decide), if_neg (by decide), if_neg (by decide)] at h
        exact .inl (Oper.wp_mono (fun a' w' h' => ⟨⟨fun he => (by rw [hei] at he; cases he), fun _ _ => h'.1⟩, ih a' w' h'.1 h'.2⟩) h)
      · rename_i hw
        rw [if_neg hw] at h
        exact ⟨⟨fun _ => by first | rfl | trivial, fun _ h => h⟩, ih _ _ hC h⟩
    · have hkf : (k == 2) = false := by simpa using k2
      simp only [hkf, Bool.false_eq_true, if_false, Bool.and_eq_true] at hk
      obtain ⟨⟨hfree, _⟩, hls⟩ := hk
      have fin : ∀ (S : World → Prop) (v : Value), (∀ w, (i ∈ ls → C w) → S w) → YieldsIf P ops S o v a → wpPlan P ops Q C (wpList P ops Q tops) (planL ops r) (a.put o.dst v) w → wpAnyT P md ops Q C ls es (fuel + 1) listed a w :=
        fun S v hS hy h' => wpAnyT_first ho (Region.noSelect_spec hs) (fun c a w => hQ c a w o v (Array.mem_of_getElem? ho)) hS fuel listed a w hc (Region.free_spec ho hfree) hready hy (fun _ => hC) (ih _ _ hC h')
      by_cases hw : Region.wanted o (yielded ops a.tmps) = true
      · rw [if_pos hw] at h
        by_cases k0 : k = 0
        · rw [if_pos k0] at h
          obtain ⟨v, hy, h'⟩ := quietV_yields hw h
          exact fin _ v (fun _ _ => trivial) hy h'
        · rw [if_neg k0] at h
          have k0' : (k == 0) = false := by simpa using k0
          simp only [k0', Bool.false_or, Bool.or_eq_true, Bool.and_eq_true, beq_iff_eq] at hls
          rcases hls with hls | hls
          · have hl : i ∈ ls := by simpa using hls.2
            rw [if_pos hls.1] at h
            obtain ⟨v, hy, h'⟩ := quietV_yields hw h
            exact fin _ v (fun w h => h hl) hy h'
          · rw [hls.1, if_neg (by decide), if_pos rfl] at h
            obtain ⟨v, hy, h'⟩ := quietV_yields hw h
            exact wpAnyT_exact ho (Region.noSelect_spec hs) (fun c a w => hQ c a w o v (Array.mem_of_getElem? ho)) (fun j hj => List.all_eq_true.1 hls.2 j hj) fuel listed a hc (Region.free_spec ho hfree) hready hy (ih _ _ hC h')
      · rw [if_neg hw] at h
        exact fin (fun _ => True) undef (fun _ _ => trivial) (.inr ⟨by simpa using hw, rfl⟩) h
end

section
variable {P : Program} {Q : Exit → Act → World → Prop} {C : World → Prop}
/-- a plan that is not opened by looking at it -/
structure Pl (P : Program) (ops : Array Oper) (Q : Exit → Act → World → Prop) (C : World → Prop) (tail : Act → World → Prop) (r : List (Nat × Oper)) (a : Act) (w : World) : Prop where
  out : wpPlan P ops Q C tail r a w
/-- the operations behind the plan -/
def tailL (ops : Array Oper) (tl : List Nat) : List Oper := tl.filterMap (ops[·]?)
/-- THE RULE: a region that draws its order, by a plan -/
theorem wp_region_plan {id : Nat} {a : Act} {w : World} {l : List Oper} (pl : List (Nat × Nat)) (ls es tl : List Nat) (C : World → Prop) (hm : P.follows .mixedOrders = true) (hs : Region.noSelect l.toArray = true)
    (hp : planOK .any l.toArray ls es tl (Array.replicate l.toArray.size false) pl = true) (hl : pl.length + tl.length = l.toArray.size) (hmap : tl.map (l.toArray[·]?) = (tailL l.toArray tl).map some) (hC : C w.drew)
    (hQ : ∀ c a w d v, Q (.panic c) (Act.put a d v) w → Q (.panic c) a w)
    (h : Pl P l.toArray Q C (wpList P l.toArray Q (tailL l.toArray tl)) (planL l.toArray pl) a w.drew) : (Code.region id l.toArray true).wp P Q a w := by
  refine wp_region_any hm (wpAny_of_T (C := C) (ls := ls) (es := es) _ _ _ _ (plan_sound hs (fun c a w o v _ => hQ c a w o.dst v) tl _ hmap pl _ _ a _ hp hl ?_ hC h.out))
  intro j o ho hj
  exfalso
  revert hj
  rw [Array.getD_eq_getD_getElem?, Array.getElem?_replicate]
  split <;> simp

/-- .. where the function defers: the exit reads the cells; the results' cell is none of the region's -/
theorem wp_region_planD {id : Nat} {a : Act} {w : World} {l : List Oper} (pl : List (Nat × Nat)) (ls es tl : List Nat) (C : World → Prop) (hm : P.follows .mixedOrders = true) (hs : Region.noSelect l.toArray = true)
    (hp : planOK .any l.toArray ls es tl (Array.replicate l.toArray.size false) pl = true) (hl : pl.length + tl.length = l.toArray.size) (hmap : tl.map (l.toArray[·]?) = (tailL l.toArray tl).map some) (hC : C w.drew)
    (hQ : ∀ c a w (o : Oper) v, o ∈ l → Q (.panic c) (Act.put a o.dst v) w → Q (.panic c) a w)
    (h : Pl P l.toArray Q C (wpList P l.toArray Q (tailL l.toArray tl)) (planL l.toArray pl) a w.drew) : (Code.region id l.toArray true).wp P Q a w := by
  refine wp_region_any hm (wpAny_of_T (C := C) (ls := ls) (es := es) _ _ _ _ (plan_sound hs (fun c a w o v ho => hQ c a w o v (List.mem_toArray.1 ho)) tl _ hmap pl _ _ a _ hp hl ?_ hC h.out))
  intro j o ho hj
  exfalso
  revert hj
  rw [Array.getD_eq_getD_getElem?, Array.getElem?_replicate]
  split <;> simp
theorem leaves_congr {fn : Func} {t t' : Array Value} {R : Ending → World → Prop} (h : results fn t = results fn t') : ∀ (ds : List Deferred) (u : FrameMode) (w : World), Leaves P fn t R ds u w = Leaves P fn t' R ds u w
  | [], .returning, w => by unfold Leaves; rw [h]
  | [], .panicking _, w => by unfold Leaves; rfl
  | [], .run, w => by unfold Leaves; rfl
  | d :: ds, u, w => by
    have ih := leaves_congr (R := R) h ds
    unfold Leaves
    simp only [ih]
theorem results_cell {fn : Func} {r : Nat} {ty : TypeId} (hr : fn.results = #[.cell r ty]) (t t' : Array Value) (h : t.getD r undef = t'.getD r undef) : results fn t = results fn t' := by
  unfold results
  rw [hr]
  simp only [List.mapM_toArray, List.mapM_cons, List.mapM_nil, h]
theorem put_results {fn : Func} (r : Nat) (hr : ∀ t t' : Array Value, t.getD r undef = t'.getD r undef → results fn t = results fn t') {l : List Oper} (hl : (l.all fun o => o.dst != some r) = true) {R : Ending → World → Prop} :
    ∀ c a w (o : Oper) v, o ∈ l → bodyPostD P fn R (.panic c) (Act.put a o.dst v) w → bodyPostD P fn R (.panic c) a w := by
  intro c a w o v ho h
  have hne := List.all_eq_true.1 hl o ho
  cases hd : o.dst with
  | none => rw [hd] at h; exact h
  | some d =>
    rw [hd] at h hne
    have hdr : d ≠ r := by simpa using hne
    have h' : Leaves P fn (a.tmps.set! d v) R a.defers (.panicking c) w := h
    rw [leaves_congr (t' := a.tmps) (hr _ _ (by simp [Array.getD_eq_getD_getElem?, Array.getElem?_setIfInBounds, hdr]))] at h'
    exact h'
variable {ops : Array Oper} {tail : Act → World → Prop} {a : Act} {w : World} {r : List (Nat × Oper)} {o : Oper}
theorem plan_nil (h : tail a w) : Pl P ops Q C tail [] a w := ⟨h⟩
theorem plan_pure (hw : Region.wanted o (yielded ops a.tmps) = true)
    (h : ∀ K : Act → Prop, (∀ a, Pl P ops Q C tail r a w → K a) → quietV P o a (fun _ => True) K) : Pl P ops Q C tail ((0, o) :: r) a w := by
  refine ⟨?_⟩; unfold wpPlan; rw [if_pos hw, if_pos rfl]; exact h _ fun _ h => h.out
theorem plan_load (hw : Region.wanted o (yielded ops a.tmps) = true)
    (h : ∀ K : Act → Prop, (∀ a, Pl P ops Q C tail r a w → K a) → quietV P o a C K) : Pl P ops Q C tail ((1, o) :: r) a w := by
  refine ⟨?_⟩; unfold wpPlan; rw [if_pos hw, if_neg (by decide), if_pos rfl]; exact h _ fun _ h => h.out
theorem plan_exact (hw : Region.wanted o (yielded ops a.tmps) = true)
    (h : ∀ K : Act → Prop, (∀ a, Pl P ops Q C tail r a w → K a) → quietV P o a (fun x => x = w) K) : Pl P ops Q C tail ((3, o) :: r) a w := by
  refine ⟨?_⟩; unfold wpPlan; rw [if_pos hw, if_neg (by decide), if_neg (by decide), if_pos rfl]; exact h _ fun _ h => h.out
theorem plan_does (hw : Region.wanted o (yielded ops a.tmps) = true)
    (h : ∀ K : Act → World → Prop, (∀ a w, (C w ∧ Pl P ops Q C tail r a w) → K a w) → o.wp P a w K Q) : Pl P ops Q C tail ((2, o) :: r) a w := by
  refine ⟨?_⟩; unfold wpPlan; rw [if_pos hw, if_neg (by decide), if_neg (by decide), if_neg (by decide)]; exact h _ fun _ _ h => ⟨h.1, h.2.out⟩
theorem plan_skip {k : Nat} (hw : Region.wanted o (yielded ops a.tmps) = false) (h : Pl P ops Q C tail r (a.put o.dst undef) w) : Pl P ops Q C tail ((k, o) :: r) a w := by
  refine ⟨?_⟩; unfold wpPlan; rw [if_neg (by rw [hw]; exact Bool.false_ne_true)]; exact h.out

theorem quiet_move' {S : World → Prop} {K : Act → Prop} (x : Operand) (h : o.op = .move x) (hk : K (a.put o.dst (a.eval x))) : quietV P o a S K :=
  ⟨_, fun w _ => by simp [execOp, h], hk⟩
theorem quiet_assign' {S : World → Prop} {K : Act → Prop} (x : Operand) (h : o.op = .assign x) (hk : K (a.put o.dst (a.eval x))) : quietV P o a S K :=
  ⟨_, fun w _ => by simp [execOp, h], hk⟩
theorem quiet_runX {K : Act → Prop} (v : Value) (h : (execOp a.eval o).run P w = .ok (.value v) w) (hk : K (a.put o.dst v)) : quietV P o a (fun x => x = w) K :=
  ⟨v, fun x hx => by subst hx; exact h, hk⟩
theorem NoPanic.ok {Q : Exit → Act → World → Prop} (h : Q .normal a w) : NoPanic Q .normal a w := h
/-- what holds in every world that keeps w0's blocks -/
structure ExtW (w0 : World) where
  w : World
  h : Ext w0 w
def ClsE (w0 : World) : World → Prop := fun W => ∃ y : ExtW w0, W = y.w
theorem ClsE.of {w0 w1 : World} (h : Ext w0 w1) : ClsE w0 w1 := ⟨⟨w1, h⟩, rfl⟩
theorem ClsE.ext {w0 w1 : World} (h : ClsE w0 w1) : Ext w0 w1 := by obtain ⟨y, rfl⟩ := h; exact y.h
theorem quiet_run {S : World → Prop} {K : Act → Prop} (v : Value) (h : ∀ w, S w → (execOp a.eval o).run P w = .ok (.value v) w) (hk : K (a.put o.dst v)) : quietV P o a S K := ⟨v, h, hk⟩
theorem quiet_runE {w0 : World} {K : Act → Prop} (v : Value) (h : ∀ y : ExtW w0, (execOp a.eval o).run P y.w = .ok (.value v) y.w) (hk : K (a.put o.dst v)) : quietV P o a (ClsE w0) K :=
  ⟨v, fun w hw => by obtain ⟨y, rfl⟩ := hw; exact h y, hk⟩
end
/-- .. and the class in which blocks of S may turn -/
structure KeepsW (S : Nat → Prop) (w0 : World) where
  w : World
  h : Keeps S w0 w
def ClsK (S : Nat → Prop) (w0 : World) : World → Prop := fun W => ∃ y : KeepsW S w0, W = y.w
theorem ClsK.of {S : Nat → Prop} {w0 w1 : World} (h : Keeps S w0 w1) : ClsK S w0 w1 := ⟨⟨w1, h⟩, rfl⟩
theorem quiet_runK {P : Program} {o : Oper} {a : Act} {S : Nat → Prop} {w0 : World} {K : Act → Prop} (v : Value) (h : ∀ y : KeepsW S w0, (execOp a.eval o).run P y.w = .ok (.value v) y.w) (hk : K (a.put o.dst v)) : quietV P o a (ClsK S w0) K :=
  ⟨v, fun w hw => by obtain ⟨y, rfl⟩ := hw; exact h y, hk⟩
@[go_sem] theorem KeepsW.cell {S : Nat → Prop} {w0 : World} (y : KeepsW S w0) (b o : Nat) (hb : b < w0.heap.size) (hs : ¬ S b) : y.w.cell? ⟨b, o, none⟩ = w0.cell? ⟨b, o, none⟩ :=
  World.cell?_of_block (w := w0) (a := ⟨b, o, none⟩) (y.h.block b hb hs)
@[go_sem] theorem OneB_eq (x b : Nat) : OneB x b = (b = x) := rfl
@[go_sem] theorem ExtW.cell {w0 : World} (y : ExtW w0) (b o : Nat) (hb : b < w0.heap.size) : y.w.cell? ⟨b, o, none⟩ = w0.cell? ⟨b, o, none⟩ := y.h.reads.1 b o hb
end Go.Proofs.YthhdgjofagdjeaaDoor
