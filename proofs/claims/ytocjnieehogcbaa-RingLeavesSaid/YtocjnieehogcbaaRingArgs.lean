/- The ring statements' arguments, opened: a list of calls. No further condition. -/
import Derived.Test.YtocjnieehogcbaaRingA
import Derived.Test.YtocjnieehogcbaaOpen
import Derived.Test.YtocjnieehogcbaaLift
set_option linter.unusedVariables false
namespace Go.Proofs.Ytocjnieehogcbaa
open Go.RowKit Go.ChangeShapes Go.WideShapes

theorem list3 {α : Type} {cs : List α} (h : cs.length = 3) : ∃ a b c, cs = [a, b, c] := by
  match cs, h with
  | [a, b, c], _ => exact ⟨a, b, c, rfl⟩
theorem list4 {α : Type} {cs : List α} (h : cs.length = 4) : ∃ a b c d, cs = [a, b, c, d] := by
  match cs, h with
  | [a, b, c, d], _ => exact ⟨a, b, c, d, rfl⟩

section
variable {H : Type} {enc : TypeId × Value → H} {w : World}
theorem cellsItem : Try.prog.cellsOf 31 = 3 := by kernel_rfl
theorem cellsAct : Try.prog.cellsOf 42 = 4 := by kernel_rfl
theorem cellsInt : Try.prog.cellsOf 3 = 1 := by kernel_rfl
theorem cellsBool : Try.prog.cellsOf 4 = 1 := by kernel_rfl
theorem cellsU8 : Try.prog.cellsOf 5 = 1 := by kernel_rfl
theorem cellsBytes : Try.prog.cellsOf 29 = 1 := by kernel_rfl
theorem rd_item : Rd enc Try.prog w 31 fun cs (x : It) => ∃ bv, cs = [.bool x.side, .int .i64 x.key, bv] ∧ Bytes w (Old w) bv x.bytes ∧ x.bytes.length ≤ 9223372036854775807 := fun fuel cs x h => by
  obtain ⟨hl, hf⟩ := rd_field Try.underlying31 h
  rw [cellsItem] at hl
  obtain ⟨c0, c1, c2, rfl⟩ := list3 hl
  obtain ⟨s, h0⟩ := hf 0 _ 0 1 rfl rfl cellsBool (rd_bool Try.underlying4)
  obtain ⟨k, h1, _⟩ := hf 1 _ 1 1 rfl rfl cellsInt (rd_int Try.underlying3)
  obtain ⟨l, bv, h2, h3, h4⟩ := hf 2 _ 2 1 rfl rfl cellsBytes (rd_bytes Try.underlying29 cellsU8 Try.underlying5)
  simp at h0 h1 h2
  exact ⟨⟨s, k, l⟩, bv, by rw [h0, h1, h2], h3, h4⟩
theorem rd_act : Rd enc Try.prog w 42 fun cs (x : Ac) => ∃ bv, cs = [.int .i64 x.what, .bool x.item.side, .int .i64 x.item.key, bv] ∧ Bytes w (Old w) bv x.item.bytes ∧ x.item.bytes.length ≤ 9223372036854775807 := fun fuel cs x h => by
  obtain ⟨hl, hf⟩ := rd_field Try.underlying42 h
  rw [cellsAct] at hl
  obtain ⟨c0, c1, c2, c3, rfl⟩ := list4 hl
  obtain ⟨k, h1, _⟩ := hf 0 _ 0 1 rfl rfl cellsInt (rd_int Try.underlying3)
  obtain ⟨it, bv, h2, h3, h4⟩ := hf 1 _ 1 3 rfl rfl cellsItem rd_item
  simp at h1 h2
  obtain ⟨h5, h6, h7⟩ := h2
  exact ⟨⟨k, it⟩, bv, by rw [h1, h5, h6, h7], h3, h4⟩
theorem open_acts {v : Value} {d : DataW H} {p : List MemPlace} {b : Nat} (hv : Value.okWide Try.prog w .any b 38 v) (h : DataW.Trod enc Try.prog w 0 (fun _ => true) true 38 v d p) :
    ∃ l : List Ac, Acts w (Old w) v l ∧ l.length ≤ 9223372036854775807 ∧ ∀ x ∈ l, x.item.bytes.length ≤ 9223372036854775807 := by
  obtain ⟨fuel, hf⟩ := h
  obtain ⟨l, v', h1, h2, h3⟩ := rd_slice 4 Try.underlying38 cellsAct (by decide) rd_act fuel _ _ hf
  rw [ok_slice Try.underlying38 hv] at h1
  obtain rfl : v = v' := by simpa using h1
  have hx : ∀ x ∈ l, x.item.bytes.length ≤ 9223372036854775807 := by
    intro x hx
    obtain ⟨i, hi, rfl⟩ := List.getElem_of_mem hx
    rcases h2 with ⟨a, _, rfl⟩ | ⟨b, o, c, _, _, _, hat⟩
    · simp at hi
    · obtain ⟨cs, ⟨bv, _, _, h5⟩, _⟩ := hat i hi
      exact h5
  refine ⟨l, SlV.mono h2 (fun _ h => h) fun b o x hb ⟨cs, ⟨bv, k1, k2, k3⟩, _, k5⟩ => ?_, h3, hx⟩
  subst k1
  have e0 := k5 0 (by decide)
  have e1 := k5 1 (by decide)
  have e2 := k5 2 (by decide)
  have e3 := k5 3 (by decide)
  exact ⟨e0, e1, e2, bv, e3, k2⟩
end
end Go.Proofs.Ytocjnieehogcbaa
