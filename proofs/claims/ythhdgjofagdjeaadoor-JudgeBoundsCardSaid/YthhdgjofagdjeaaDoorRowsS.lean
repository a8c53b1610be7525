/- Rows of elements in a slice that the call owns: joined, cut, taken over from any slice. No program's function is named here. -/
import Derived.Test.YthhdgjofagdjeaaDoorWin
import Derived.Test.YthhdgjofagdjeaaDoorOpenS
set_option linter.unusedVariables false
set_option linter.unusedSimpArgs false
set_option maxRecDepth 100000
namespace Go.Proofs.YthhdgjofagdjeaaDoor
open Go.RowKit

section
variable {α : Type} {sz : Nat} {En : List Value → α → Prop} {cs cs' : List Value} {l l' : List α}
theorem RowOf.append (h : RowOf sz En cs l) (h' : RowOf sz En cs' l') : RowOf sz En (cs ++ cs') (l ++ l') := by
  obtain ⟨a, rfl, a1, a2⟩ := h
  obtain ⟨b, rfl, b1, b2⟩ := h'
  refine ⟨a ++ b, by simp, by simp [a1, b1], fun j hj hj' => ?_⟩
  by_cases hjl : j < l.length
  · rw [List.getElem_append_left (by omega), List.getElem_append_left hjl]
    exact a2 j hjl (by omega)
  · simp only [List.length_append] at hj hj'
    rw [List.getElem_append_right (by omega), List.getElem_append_right (by omega)]
    simp only [a1]
    exact b2 (j - l.length) (by omega) (by omega)
theorem flat_drop : ∀ (css : List (List Value)) (i : Nat), (∀ j (h : j < css.length), css[j].length = sz) → i ≤ css.length → css.flatten.drop (i * sz) = (css.drop i).flatten ∧ css.flatten.take (i * sz) = (css.take i).flatten
  | css, 0, _, _ => by simp
  | [], i + 1, _, h => by simp at h
  | c :: css, i + 1, h, hi => by
    have h0 := h 0 (by simp)
    simp only [List.getElem_cons_zero] at h0
    obtain ⟨h1, h2⟩ := flat_drop css i (fun j hj => by have := h (j + 1) (by simp; omega); simpa using this) (by simpa using hi)
    have e : (i + 1) * sz = c.length + i * sz := by rw [h0, Nat.add_mul]; omega
    simp only [List.flatten_cons, List.drop_succ_cons, List.take_succ_cons]
    rw [e, List.drop_append, List.take_append]
    simp only [Nat.add_sub_cancel_left, List.drop_of_length_le (show c.length ≤ c.length + i * sz by omega), List.take_of_length_le (show c.length ≤ c.length + i * sz by omega), List.nil_append, h1, h2]
    exact ⟨trivial, trivial⟩
theorem RowOf.drop (h : RowOf sz En cs l) (i : Nat) (hi : i ≤ l.length) : RowOf sz En (cs.drop (i * sz)) (l.drop i) := by
  obtain ⟨a, rfl, a1, a2⟩ := h
  rw [(flat_drop a i (fun j hj => (a2 j (by omega) hj).1) (by omega)).1]
  refine ⟨_, rfl, by simp [a1], fun j hj hj' => ?_⟩
  simp only [List.length_drop] at hj hj'
  simp only [List.getElem_drop]
  exact a2 (i + j) (by omega) (by omega)
theorem RowOf.take (h : RowOf sz En cs l) (i : Nat) (hi : i ≤ l.length) : RowOf sz En (cs.take (i * sz)) (l.take i) := by
  obtain ⟨a, rfl, a1, a2⟩ := h
  rw [(flat_drop a i (fun j hj => (a2 j (by omega) hj).1) (by omega)).2]
  refine ⟨_, rfl, by simp [a1], fun j hj hj' => ?_⟩
  simp only [List.length_take] at hj hj'
  simp only [List.getElem_take]
  exact a2 j (by omega) (by omega)
theorem RowOf.one {c : List Value} {x : α} (h : En c x) (hc : c.length = sz) : RowOf sz En c [x] := ⟨[c], by simp, rfl, fun j hj hj' => by
  obtain rfl : j = 0 := by simp at hj; omega
  exact ⟨hc, h⟩⟩
/-- each element is one of few cells -/
theorem RowOf.all {p : Value → Prop} (h : RowOf sz En cs l) (hp : ∀ c x, En c x → ∀ u ∈ c, p u) : ∀ u ∈ cs, p u := by
  obtain ⟨a, rfl, a1, a2⟩ := h
  intro u hu
  obtain ⟨c, hc, huc⟩ := List.mem_flatten.1 hu
  obtain ⟨j, hj, rfl⟩ := List.getElem_of_mem hc
  exact hp _ _ (a2 j (by omega) hj).2 u huc
/-- the cells of any slice of elements -/
theorem SlV.row {w : World} {A : Nat → Prop} {At : Nat → Nat → α → Prop} {v : Value} (h : SlV A At sz v l) (hat : ∀ b o x, A b → At b o x → ∃ c, En c x ∧ c.length = sz ∧ ∀ j, j < sz → w.cell? ⟨b, o + j, none⟩ = c[j]?) :
    ∃ cs, RowOf sz En cs l ∧ SrcCells w v l.length cs := by
  rcases h with ⟨a, rfl, rfl⟩ | ⟨b, o, c, rfl, h1, h2, h3⟩
  · refine ⟨[], RowOf.nil, ?_⟩
    cases a with
    | none => exact .inl ⟨rfl, rfl, rfl⟩
    | some ad => exact .inr ⟨ad, 0, rfl, fun j u hu => by simp at hu⟩
  · obtain ⟨css, k1, k2⟩ := list_of_each (p := fun i (c : List Value) => ∃ h : i < l.length, En c l[i] ∧ c.length = sz ∧ ∀ j, j < sz → w.cell? ⟨b, o + i * sz + j, none⟩ = c[j]?) l.length fun i hi => by
      obtain ⟨c, e1, e2, e3⟩ := hat b _ _ h2 (h3 i hi)
      exact ⟨c, hi, e1, e2, e3⟩
    refine ⟨css.flatten, ⟨css, rfl, k1, fun j hj hj' => ?_⟩, .inr ⟨⟨b, o, none⟩, c, rfl, fun j u hu => ?_⟩⟩
    · obtain ⟨_, e1, e2, _⟩ := k2 j hj'
      exact ⟨e2, e1⟩
    · have hlen : css.flatten.length = css.length * sz := flat_len_uniform css fun j hj => let ⟨_, _, e2, _⟩ := k2 j hj; e2
      have hj : j < css.length * sz := by rw [← hlen]; exact (List.getElem?_eq_some_iff.1 hu).1
      have hsz : 0 < sz := by rcases Nat.eq_zero_or_pos sz with h | h; rw [h] at hj; omega; exact h
      have hq : j / sz < css.length := Nat.div_lt_of_lt_mul (by rwa [Nat.mul_comm] at hj)
      obtain ⟨_, e1, e2, e3⟩ := k2 (j / sz) hq
      have hm := Nat.mod_lt j hsz
      have hj' : j / sz * sz + j % sz = j := by rw [Nat.mul_comm]; exact Nat.div_add_mod j sz
      have hg := flat_get css (j / sz) (j % sz) hq (fun j hj => let ⟨_, _, e2, _⟩ := k2 j hj; e2) hm
      rw [hj'] at hg
      rw [Addr.add_lit, ← hu, hg, ← e3 _ hm]
      congr 2
      omega
/-- .. and back -/
theorem SlV.of_win {w : World} {base n : Nat} {v : Value} {At : Nat → Nat → α → Prop} (h : Win w base sz v n cs) (hn : n = l.length) (hr : RowOf sz En cs l)
    (hat : ∀ b o c x, En c x → c.length = sz → (∀ i, i < sz → w.cell? ⟨b, o + i, none⟩ = c[i]?) → At b o x) : SlV (fun b => base ≤ b ∧ b < w.heap.size) At sz v l := by
  subst hn
  rcases h.2 with ⟨rfl, h0⟩ | ⟨g, o, cap, rfl, h1, h2, h3, h4, h5, h6⟩
  · exact .inl ⟨none, rfl, List.eq_nil_of_length_eq_zero (by omega)⟩
  · refine .inr ⟨g, o, cap, rfl, h2, ⟨h1, h4⟩, fun j hj => ?_⟩
    obtain ⟨c, c1, c2, c3⟩ := hr.get j hj
    refine hat _ _ c _ c2 c1 fun i hi => ?_
    have hlt : j * sz + i < cs.length := by
      have : (j + 1) * sz ≤ l.length * sz := Nat.mul_le_mul_right _ hj
      rw [Nat.add_mul] at this
      rw [h.1]; omega
    have := h6 (j * sz + i) _ (List.getElem?_eq_getElem hlt)
    rw [← Nat.add_assoc] at this
    rw [this, ← List.getElem?_eq_getElem hlt]
    exact c3 i hi
end
/-- a slice without its first elements, as the model writes it -/
theorem SlV.drop {α : Type} {A : Nat → Prop} {At : Nat → Nat → α → Prop} {sz b o c : Nat} {l : List α} (h : SlV A At sz (.slice (some ⟨b, o, none⟩) l.length c) l) (i : Nat) (hi : i ≤ l.length) :
    SlV A At sz (.slice (if c = i then some ⟨b, o, none⟩ else some ⟨b, o + i * sz, none⟩) (l.length - i) (c - i)) (l.drop i) := by
  rcases h with ⟨a, h1, rfl⟩ | ⟨b', o', c', h1, h2, h3, h4⟩
  · obtain rfl : i = 0 := by simpa using hi
    simp only [List.length_nil, Value.slice.injEq] at h1
    obtain ⟨rfl, _, rfl⟩ := h1
    exact .inl ⟨_, rfl, rfl⟩
  · simp only [Value.slice.injEq, Option.some.injEq, Addr.mk.injEq] at h1
    obtain ⟨⟨rfl, rfl, _⟩, _, rfl⟩ := h1
    by_cases hc : c = i
    · subst hc
      rw [if_pos rfl]
      refine .inl ⟨_, by congr 1 <;> omega, List.drop_of_length_le h2⟩
    · rw [if_neg hc]
      refine .inr ⟨b, o + i * sz, c - i, by rw [List.length_drop], by rw [List.length_drop]; omega, h3, fun j hj => ?_⟩
      rw [List.length_drop] at hj
      rw [List.getElem_drop, show o + i * sz + j * sz = o + (i + j) * sz by rw [Nat.add_mul]; omega]
      exact h4 (i + j) (by omega)
/-- a literal of no element -/
theorem Win.empty {w : World} {base sz g : Nat} (hb : base ≤ g) (hg : g < w.heap.size) : Win w base sz (.slice (some ⟨g, 0, none⟩) 0 0) 0 [] :=
  ⟨by simp, .inr ⟨g, 0, 0, rfl, hb, Nat.le_refl _, Nat.zero_le _, hg, fun j hj => by omega, fun j u hu => by simp at hu⟩⟩
theorem Win.take {w : World} {base sz n cap o g : Nat} {cs : List Value} (h : Win w base sz (.slice (some ⟨g, o, none⟩) n cap) n cs) (i : Nat) (hi : i ≤ n) : Win w base sz (.slice (some ⟨g, o, none⟩) i cap) i (cs.take (i * sz)) := by
  obtain ⟨h0, ⟨h, _⟩ | ⟨g', o', cap', h, h1, h2, h3, h4, h5, h6⟩⟩ := h
  · cases h
  · cases h
    refine ⟨by rw [List.length_take, h0]; exact Nat.min_eq_left (Nat.mul_le_mul_right _ hi), .inr ⟨g, o, _, rfl, h1, by omega, h3, h4, h5, fun j u hu => h6 j u ?_⟩⟩
    rw [List.getElem?_take] at hu
    split at hu
    · exact hu
    · cases hu
end Go.Proofs.YthhdgjofagdjeaaDoor
