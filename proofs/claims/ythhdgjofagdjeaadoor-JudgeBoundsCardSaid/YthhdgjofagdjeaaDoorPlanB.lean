/- A plan's check with ancestors sought by growing depth: what 'planOK' asks, at a small part of the kernel's work. -/
import Derived.Test.YthhdgjofagdjeaaDoorPlan
set_option linter.unusedVariables false
set_option linter.unusedSimpArgs false
namespace Go.Proofs.YthhdgjofagdjeaaDoor
open Go.RowKit

def anc2 (md : Region.Mode) (ops : Array Oper) (n j i : Nat) : Bool := (List.range (n + 1)).any fun d => anc md ops d j i
def needs2 (md : Region.Mode) (ops : Array Oper) (ls : List Nat) (j : Nat) : Bool := ls.any fun i => i != j && !anc2 md ops ops.size j i
def forcedOK2 (md : Region.Mode) (ops : Array Oper) (ls es : List Nat) : Array Bool → List Nat → Bool
  | listed, i :: tl => Region.ready md ops listed == [i] && !needs2 md ops ls i && es.contains i && forcedOK2 md ops ls es (listed.setIfInBounds i true) tl
  | listed, [] => Region.ready md ops listed == []
def planOK2 (md : Region.Mode) (ops : Array Oper) (ls es : List Nat) (tl : List Nat) : Array Bool → List (Nat × Nat) → Bool
  | listed, (k, i) :: r =>
    (if k == 2 then Region.ready md ops listed == [i] && es.contains i else Region.free md ops listed i && (Region.ready md ops listed).contains i && (k == 0 || (k == 1 && ls.contains i) || (k == 3 && es.all fun j => anc2 md ops ops.size j i))) && planOK2 md ops ls es tl (listed.setIfInBounds i true) r
  | listed, [] => forcedOK2 md ops ls es listed tl


theorem anc_succ {md : Region.Mode} {ops : Array Oper} : ∀ n j i, anc md ops n j i = true → anc md ops (n + 1) j i = true
  | 0, j, i, h => by cases h
  | n + 1, j, i, h => by
    unfold anc at h ⊢
    cases ho : ops[j]? with
    | none => rw [ho] at h; cases h
    | some o =>
      rw [ho] at h
      simp only [Option.map_some, Option.getD_some, Array.any_eq_true', Bool.and_eq_true, Bool.or_eq_true] at h ⊢
      obtain ⟨e, he, hb, h1⟩ := h
      exact ⟨e, he, hb, h1.imp id (anc_succ n _ _)⟩
theorem anc_le {md : Region.Mode} {ops : Array Oper} {d n j i : Nat} (h : d ≤ n) (ha : anc md ops d j i = true) : anc md ops n j i = true := by
  induction h with
  | refl => exact ha
  | step _ ih => exact anc_succ _ _ _ ih
theorem anc2_anc {md : Region.Mode} {ops : Array Oper} {n j i : Nat} (h : anc2 md ops n j i = true) : anc md ops n j i = true := by
  unfold anc2 at h
  obtain ⟨d, hd, h1⟩ := List.any_eq_true.1 h
  exact anc_le (Nat.lt_succ_iff.1 (List.mem_range.1 hd)) h1
theorem needs2_not {md : Region.Mode} {ops : Array Oper} {ls : List Nat} {j : Nat} (h : (!needs2 md ops ls j) = true) : (!needs md ops ls j) = true := by
  unfold needs2 at h
  unfold needs
  rw [Bool.not_eq_true', List.any_eq_false] at h ⊢
  intro i hi h1
  refine h i hi ?_
  rw [Bool.and_eq_true, Bool.not_eq_true'] at h1 ⊢
  refine ⟨h1.1, ?_⟩
  cases h2 : anc2 md ops ops.size j i with
  | false => rfl
  | true => have := anc2_anc h2; rw [h1.2] at this; cases this
theorem forced2 {md : Region.Mode} {ops : Array Oper} {ls es : List Nat} : ∀ (tl : List Nat) (d : Array Bool), forcedOK2 md ops ls es d tl = true → forcedOK md ops ls es d tl = true
  | [], d, h => h
  | i :: tl, d, h => by
    unfold forcedOK2 at h
    unfold forcedOK
    rw [Bool.and_eq_true, Bool.and_eq_true, Bool.and_eq_true] at h ⊢
    exact ⟨⟨⟨h.1.1.1, needs2_not h.1.1.2⟩, h.1.2⟩, forced2 tl _ h.2⟩
theorem plan2 {md : Region.Mode} {ops : Array Oper} {ls es tl : List Nat} : ∀ {pl : List (Nat × Nat)} {d : Array Bool}, planOK2 md ops ls es tl d pl = true → planOK md ops ls es tl d pl = true
  | [], d, h => forced2 tl d h
  | (k, i) :: r, d, h => by
    unfold planOK2 at h
    unfold planOK
    rw [Bool.and_eq_true] at h ⊢
    refine ⟨?_, plan2 h.2⟩
    have h1 := h.1
    by_cases hk : (k == 2) = true
    · rw [if_pos hk] at h1 ⊢; exact h1
    · rw [if_neg hk] at h1 ⊢
      rw [Bool.and_eq_true] at h1 ⊢
      refine ⟨h1.1, ?_⟩
      have h2 := h1.2
      rw [Bool.or_eq_true] at h2 ⊢
      refine h2.imp id fun h3 => ?_
      rw [Bool.and_eq_true, List.all_eq_true] at h3 ⊢
      exact ⟨h3.1, fun j hj => anc2_anc (h3.2 j hj)⟩
end Go.Proofs.YthhdgjofagdjeaaDoor
