/- The signs of a text, byte by byte, as the document counts them, and as the model decodes them. No program is named here. -/
import Derived.Lib.TrimUEq
import Derived.Lib.ValidLaws
set_option linter.unusedVariables false
set_option linter.unusedSimpArgs false
namespace Go.Proofs.YthhdgjofagdjeaaDoor
open Go.Lib

/-- the sign with which bytes begin, how many bytes it has; (0, 0): none does -/
def sgn (l : List UInt8) : Nat × Nat := if decodeL l = (65533, 1) then (0, 0) else decodeL l
structure Sg where
  at' : Nat
  size : Nat
  n : Nat
  broken : Bool
def Sg.bad (x : Sg) : Bool := decide (x.n < 32) || (decide (127 ≤ x.n) && decide (x.n ≤ 159))
def signsF (l : List UInt8) : Nat → Nat → List Sg
  | 0, _ => []
  | f + 1, p => if p < l.length then (if (sgn (l.drop p)).2 = 0 then ⟨p, 1, 65533, true⟩ :: signsF l f (p + 1) else ⟨p, (sgn (l.drop p)).2, (sgn (l.drop p)).1, false⟩ :: signsF l f (p + (sgn (l.drop p)).2)) else []
def signsL (l : List UInt8) : List Sg := signsF l l.length 0
def blankB (l : List UInt8) : Bool := l.isEmpty || l.head? == some 32 || l.getLast? == some 32
/-- the number of what is wrong with a text, 0: nothing -/
def chk (l : List UInt8) : Nat := if 200 < l.length then 3 else if (signsL l).any (·.broken) then 130 else if (signsL l).any (·.bad) then 131 else if blankB l then 132 else 0

theorem decodeL_pos (l : List UInt8) : 1 ≤ (decodeL l).2 := by rw [decodeL_N]; exact decodeN_ge1 _ _ _ _ _
theorem sgn_zero (l : List UInt8) : (sgn l).2 = 0 ↔ decodeL l = (65533, 1) := by
  unfold sgn
  constructor
  · intro h
    by_cases h1 : decodeL l = (65533, 1)
    · exact h1
    · rw [if_neg h1] at h
      have := decodeL_pos l
      omega
  · intro h
    rw [if_pos h]
theorem sgn_some {l : List UInt8} (h : (sgn l).2 ≠ 0) : sgn l = decodeL l := by
  unfold sgn at h ⊢
  by_cases h1 : decodeL l = (65533, 1)
  · rw [if_pos h1] at h; exact absurd rfl h
  · rw [if_neg h1]
/-- one step of the signs, by what the model decodes -/
theorem signsF_step (l : List UInt8) (f p : Nat) (h : p < l.length) : signsF l (f + 1) p = ⟨p, (decodeL (l.drop p)).2, (decodeL (l.drop p)).1, decide (decodeL (l.drop p) = (65533, 1))⟩ :: signsF l f (p + (decodeL (l.drop p)).2) := by
  rw [signsF, if_pos h]
  by_cases h1 : decodeL (l.drop p) = (65533, 1)
  · rw [if_pos ((sgn_zero _).2 h1), h1]; rfl
  · have h2 : (sgn (l.drop p)).2 ≠ 0 := fun h => h1 ((sgn_zero _).1 h)
    rw [if_neg h2, sgn_some h2, decide_eq_false h1]
theorem signsF_end (l : List UInt8) (f p : Nat) (h : ¬ p < l.length) : signsF l f p = [] := by
  cases f with
  | zero => rfl
  | succ f => rw [signsF, if_neg h]
theorem signsF_fuel (l : List UInt8) : ∀ (f g p : Nat), l.length ≤ p + f → l.length ≤ p + g → signsF l f p = signsF l g p
  | 0, g, p, hf, hg => by rw [signsF_end l 0 p (by omega), signsF_end l g p (by omega)]
  | f + 1, 0, p, hf, hg => by rw [signsF_end l _ p (by omega), signsF_end l 0 p (by omega)]
  | f + 1, g + 1, p, hf, hg => by
    by_cases h : p < l.length
    · have hw := decodeL_pos (l.drop p)
      rw [signsF_step l f p h, signsF_step l g p h, signsF_fuel l f g _ (by omega) (by omega)]
    · rw [signsF_end l _ p h, signsF_end l _ p h]
/-- a text is valid just if no sign of it is broken -/
theorem valid_signs (l : List UInt8) : ∀ (f p : Nat), l.length ≤ p + f → validD (l.drop p) = !(signsF l f p).any (·.broken)
  | 0, p, h => by
    rw [signsF_end l 0 p (by omega), List.drop_of_length_le (by omega)]; rfl
  | f + 1, p, h => by
    by_cases hp : p < l.length
    · have hne : l.drop p ≠ [] := by
        intro h0
        have := congrArg List.length h0
        rw [List.length_drop] at this
        simp at this; omega
      have hw := decodeL_pos (l.drop p)
      rw [signsF_step l f p hp, validD_step _ hne, List.any_cons, List.drop_drop, Bool.not_or]
      by_cases h1 : decodeL (l.drop p) = (65533, 1)
      · rw [if_pos (by rw [h1]; exact ⟨rfl, rfl⟩), decide_eq_true h1]; rfl
      · rw [if_neg (fun h2 => h1 (Prod.ext h2.1 h2.2)), decide_eq_false h1, valid_signs l f _ (by omega)]; rfl
    · rw [signsF_end l _ p hp, List.drop_of_length_le (by omega)]; rfl
/-- what 'sign' tells, by the ranges of the document -/
theorem sgn_N (l : List UInt8) : sgn l = if decodeN l.length (l.getD 0 0).toNat (l.getD 1 0).toNat (l.getD 2 0).toNat (l.getD 3 0).toNat = (65533, 1) then (0, 0) else decodeN l.length (l.getD 0 0).toNat (l.getD 1 0).toNat (l.getD 2 0).toNat (l.getD 3 0).toNat := by
  unfold sgn
  rw [decodeL_N]
end Go.Proofs.YthhdgjofagdjeaaDoor
