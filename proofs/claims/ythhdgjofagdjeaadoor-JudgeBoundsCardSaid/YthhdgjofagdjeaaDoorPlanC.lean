/- A plan's check with the ancestors of each operation given as one number: what 'planOK' asks, at a small part of the kernel's work. No program is named here. -/
import Derived.Test.YthhdgjofagdjeaaDoorPlanB
set_option linter.unusedVariables false
set_option linter.unusedSimpArgs false
namespace Go.Proofs.YthhdgjofagdjeaaDoor
open Go.RowKit

def mStep (md : Region.Mode) (ms : List Nat) (j : Nat) (acc : Nat) (e : Edge) : Nat := if Region.binds md e && Nat.blt e.on j then Nat.lor acc (Nat.lor (Nat.shiftLeft 1 e.on) (ms.getD e.on 0)) else acc
def masksOK (md : Region.Mode) (ops : Array Oper) (ms : List Nat) : Bool :=
  (List.range ops.size).all fun j => match ops[j]? with | some o => Nat.beq (ms.getD j 0) (o.after.toList.foldl (mStep md ms j) 0) | none => true
def anc3 (ms : List Nat) (j i : Nat) : Bool := (ms.getD j 0).testBit i

theorem step_bit {md : Region.Mode} {ms : List Nat} {j i : Nat} : ∀ (l : List Edge) (acc : Nat), (l.foldl (mStep md ms j) acc).testBit i = true → acc.testBit i = true ∨ ∃ e ∈ l, Region.binds md e = true ∧ e.on < j ∧ (e.on = i ∨ (ms.getD e.on 0).testBit i = true)
  | [], acc, h => .inl h
  | e :: l, acc, h => by
    rw [List.foldl_cons] at h
    rcases step_bit l _ h with h1 | ⟨e', h1, h2⟩
    · unfold mStep at h1
      by_cases hc : (Region.binds md e && Nat.blt e.on j) = true
      · rw [if_pos hc] at h1
        rw [Bool.and_eq_true] at hc
        have hlt : e.on < j := by simpa using hc.2
        change (acc ||| ((1 <<< e.on) ||| ms.getD e.on 0)).testBit i = true at h1
        rw [Nat.testBit_or, Nat.testBit_or, Bool.or_eq_true, Bool.or_eq_true] at h1
        rcases h1 with h1 | h1 | h1
        · exact .inl h1
        · refine .inr ⟨e, List.mem_cons_self, hc.1, hlt, .inl ?_⟩
          rw [Nat.one_shiftLeft, Nat.testBit_two_pow] at h1
          simpa using h1
        · exact .inr ⟨e, List.mem_cons_self, hc.1, hlt, .inr h1⟩
      · rw [if_neg hc] at h1
        exact .inl h1
    · exact .inr ⟨e', List.mem_cons_of_mem _ h1, h2⟩
theorem mask_anc {md : Region.Mode} {ops : Array Oper} {ms : List Nat} (hm : masksOK md ops ms = true) : ∀ (n j i : Nat), j < n → j < ops.size → anc3 ms j i = true → anc md ops n j i = true
  | 0, j, i, hj, _, _ => by omega
  | n + 1, j, i, hj, hlt, h => by
    have h1 := List.all_eq_true.1 hm j (List.mem_range.2 hlt)
    have ho : ops[j]? = some ops[j] := Array.getElem?_eq_getElem hlt
    rw [ho] at h1
    have h2 := Nat.eq_of_beq_eq_true h1
    unfold anc3 at h
    rw [h2] at h
    rcases step_bit _ _ h with h3 | ⟨e, he, hb, hon, h3⟩
    · simp at h3
    · unfold anc
      rw [ho]
      simp only [Option.map_some, Option.getD_some, Array.any_eq_true', Bool.and_eq_true, Bool.or_eq_true, beq_iff_eq]
      refine ⟨e, by simpa using he, hb, ?_⟩
      rcases h3 with h3 | h3
      · exact .inl h3
      · exact .inr (mask_anc hm n e.on i (by omega) (by omega) h3)
theorem anc3_anc {md : Region.Mode} {ops : Array Oper} {ms : List Nat} (hm : masksOK md ops ms = true) (hl : ms.length = ops.size) {j i : Nat} (h : anc3 ms j i = true) : anc md ops ops.size j i = true := by
  by_cases hj : j < ops.size
  · exact mask_anc hm _ j i hj hj h
  · unfold anc3 at h
    rw [List.getD_eq_getElem?_getD, List.getElem?_eq_none (by omega)] at h
    simp at h
def needs3 (ms : List Nat) (ls : List Nat) (j : Nat) : Bool := ls.any fun i => i != j && !anc3 ms j i
def forcedOK3 (md : Region.Mode) (ops : Array Oper) (ms ls es : List Nat) : Array Bool → List Nat → Bool
  | listed, i :: tl => Region.ready md ops listed == [i] && !needs3 ms ls i && es.contains i && forcedOK3 md ops ms ls es (listed.setIfInBounds i true) tl
  | listed, [] => Region.ready md ops listed == []
def planOK3 (md : Region.Mode) (ops : Array Oper) (ms ls es : List Nat) (tl : List Nat) : Array Bool → List (Nat × Nat) → Bool
  | listed, (k, i) :: r =>
    (if k == 2 then Region.ready md ops listed == [i] && es.contains i else Region.free md ops listed i && (Region.ready md ops listed).contains i && (k == 0 || (k == 1 && ls.contains i) || (k == 3 && es.all fun j => anc3 ms j i))) && planOK3 md ops ms ls es tl (listed.setIfInBounds i true) r
  | listed, [] => forcedOK3 md ops ms ls es listed tl
section
variable {md : Region.Mode} {ops : Array Oper} {ms ls es tl : List Nat}
theorem needs3_not (hm : masksOK md ops ms = true) (hl : ms.length = ops.size) {j : Nat} (h : (!needs3 ms ls j) = true) : (!needs md ops ls j) = true := by
  unfold needs3 at h
  unfold needs
  rw [Bool.not_eq_true', List.any_eq_false] at h ⊢
  intro i hi h1
  refine h i hi ?_
  rw [Bool.and_eq_true, Bool.not_eq_true'] at h1 ⊢
  refine ⟨h1.1, ?_⟩
  cases h2 : anc3 ms j i with
  | false => rfl
  | true => have := anc3_anc hm hl h2; rw [h1.2] at this; cases this
theorem forced3 (hm : masksOK md ops ms = true) (hl : ms.length = ops.size) : ∀ (tl : List Nat) (d : Array Bool), forcedOK3 md ops ms ls es d tl = true → forcedOK md ops ls es d tl = true
  | [], d, h => h
  | i :: tl, d, h => by
    unfold forcedOK3 at h
    unfold forcedOK
    rw [Bool.and_eq_true, Bool.and_eq_true, Bool.and_eq_true] at h ⊢
    exact ⟨⟨⟨h.1.1.1, needs3_not hm hl h.1.1.2⟩, h.1.2⟩, forced3 hm hl tl _ h.2⟩
theorem plan3 (ms : List Nat) (hm : masksOK md ops ms = true) (hl : ms.length = ops.size) : ∀ {pl : List (Nat × Nat)} {d : Array Bool}, planOK3 md ops ms ls es tl d pl = true → planOK md ops ls es tl d pl = true
  | [], d, h => forced3 hm hl tl d h
  | (k, i) :: r, d, h => by
    unfold planOK3 at h
    unfold planOK
    rw [Bool.and_eq_true] at h ⊢
    refine ⟨?_, plan3 ms hm hl h.2⟩
    have h1 := h.1
    by_cases hk : (k == 2) = true
    · rw [if_pos hk] at h1 ⊢; exact h1
    · rw [if_neg hk] at h1 ⊢
      rw [Bool.and_eq_true] at h1 ⊢
      refine ⟨h1.1, ?_⟩
      have h2 := h1.2
      rw [Bool.or_eq_true] at h2 ⊢
      refine h2.imp id fun h3 => ?_
      rw [Bool.and_eq_true, List.all_eq_true] at h3 ⊢
      exact ⟨h3.1, fun j hj => anc3_anc hm hl (h3.2 j hj)⟩
end
end Go.Proofs.YthhdgjofagdjeaaDoor
