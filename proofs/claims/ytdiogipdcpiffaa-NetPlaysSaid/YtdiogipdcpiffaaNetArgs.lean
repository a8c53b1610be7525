/- The net statements' arguments, opened: calls. No further condition. -/
import Derived.Test.YtdiogipdcpiffaaNetL
import Derived.Test.YtdiogipdcpiffaaOpen
import Derived.Test.YtdiogipdcpiffaaLift
set_option linter.unusedVariables false
set_option maxRecDepth 100000
namespace Go.Proofs.Ytdiogipdcpiffaa
open Go.RowKit Go.ChangeShapes Go.WideShapes

theorem list6 {α : Type} {cs : List α} (h : cs.length = 6) : ∃ a b c d e f, cs = [a, b, c, d, e, f] := by
  match cs, h with
  | [a, b, c, d, e, f], _ => exact ⟨a, b, c, d, e, f, rfl⟩
theorem i64_wf {n : Int} (h : (Lit.int .i64 n).wf = true) : I64 n := by
  have hb : -9223372036854775808 ≤ n ∧ n ≤ 9223372036854775807 := by simpa [Lit.wf, IntKind.min, IntKind.max, IntKind.signed, IntKind.bits] using h
  exact hb
section
variable {H : Type} {enc : TypeId × Value → H} {w : World}
theorem cellsAct : Try.prog.cellsOf 36 = 6 := by kernel_rfl
theorem cellsInt : Try.prog.cellsOf 3 = 1 := by kernel_rfl
theorem cellsBool : Try.prog.cellsOf 4 = 1 := by kernel_rfl
theorem cellsU8 : Try.prog.cellsOf 5 = 1 := by kernel_rfl
theorem cellsBytes : Try.prog.cellsOf 30 = 1 := by kernel_rfl
theorem rd_act : Rd enc Try.prog w 36 fun cs (x : Ac) => ActEn w (Old w) cs x ∧ x.bytes.length ≤ 9223372036854775807 ∧ x.ok := fun fuel cs x h => by
  obtain ⟨hl, hf⟩ := rd_field Try.underlying36 h
  rw [cellsAct] at hl
  obtain ⟨c0, c1, c2, c3, c4, c5, rfl⟩ := list6 hl
  obtain ⟨k0, h0, _⟩ := hf 0 _ 0 1 rfl rfl cellsInt (rd_int Try.underlying3)
  obtain ⟨k1, h1, g1⟩ := hf 1 _ 1 1 rfl rfl cellsInt (rd_int Try.underlying3)
  obtain ⟨k2, h2, g2⟩ := hf 2 _ 2 1 rfl rfl cellsInt (rd_int Try.underlying3)
  obtain ⟨k3, h3, g3⟩ := hf 3 _ 3 1 rfl rfl cellsInt (rd_int Try.underlying3)
  obtain ⟨l, bv, h4, g4, g5⟩ := hf 4 _ 4 1 rfl rfl cellsBytes (rd_bytes Try.underlying30 cellsU8 Try.underlying5)
  obtain ⟨b, h5⟩ := hf 5 _ 5 1 rfl rfl cellsBool (rd_bool Try.underlying4)
  simp at h0 h1 h2 h3 h4 h5
  exact ⟨⟨k0, k1, k2, k3, l, b⟩, ⟨bv, by rw [h0, h1, h2, h3, h4, h5], g4⟩, g5, i64_wf g1, i64_wf g2, i64_wf g3⟩
theorem open_acts {v : Value} {d : DataW H} {p : List MemPlace} {b : Nat} (hv : Value.okWide Try.prog w .any b 34 v) (h : DataW.Trod enc Try.prog w 0 (fun _ => true) true 34 v d p) :
    ∃ l : List Ac, Acts w (Old w) v l ∧ l.length ≤ 9223372036854775807 ∧ (∀ x ∈ l, x.bytes.length ≤ 9223372036854775807) ∧ ∀ x ∈ l, x.ok := by
  obtain ⟨fuel, hf⟩ := h
  obtain ⟨l, v', h1, h2, h3⟩ := rd_slice 6 Try.underlying34 cellsAct (by decide) rd_act fuel _ _ hf
  rw [ok_slice Try.underlying34 hv] at h1
  obtain rfl : v = v' := by simpa using h1
  have hx : ∀ x ∈ l, x.bytes.length ≤ 9223372036854775807 ∧ x.ok := by
    intro x hx
    obtain ⟨i, hi, rfl⟩ := List.getElem_of_mem hx
    rcases h2 with ⟨a, _, rfl⟩ | ⟨b, o, c, _, _, _, hat⟩
    · simp at hi
    · obtain ⟨cs, ⟨_, h5⟩, _⟩ := hat i hi
      exact h5
  exact ⟨l, SlV.mono h2 (fun _ h => h) fun b o x hb ⟨cs, ⟨k1, _⟩, k4, k5⟩ => ⟨cs, k1, k4, k5⟩, h3, fun x h => (hx x h).1, fun x h => (hx x h).2⟩
theorem open_act {v : Value} {d : DataW H} {p : List MemPlace} {b : Nat} (hv : Value.okWide Try.prog w .any b 36 v) (h : DataW.Trod enc Try.prog w 0 (fun _ => true) true 36 v d p) :
    ∃ x : Ac, ActV w (Old w) v x ∧ x.bytes.length ≤ 9223372036854775807 ∧ x.ok := by
  obtain ⟨fuel, hf⟩ := h
  obtain ⟨x, ⟨bv, h1, h2⟩, h3, h4⟩ := rd_act fuel _ _ hf
  obtain ⟨cs, rfl, -⟩ := okWide_struct Try.underlying36 hv
  refine ⟨x, ⟨bv, ?_, h2⟩, h3, h4⟩
  have h5 : cs.toList = [.int .i64 x.what, .int .i64 x.src, .int .i64 x.dst, .int .i64 x.pick, bv, .bool x.is] := h1
  obtain ⟨l⟩ := cs
  simp only at h5
  rw [h5]
end
end Go.Proofs.Ytdiogipdcpiffaa
