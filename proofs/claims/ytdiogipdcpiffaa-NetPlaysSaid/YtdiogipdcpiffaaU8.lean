/- Bytes as elements: their row of the table, and append of so many zeros. No program's function is named here. -/
import Derived.Test.YtdiogipdcpiffaaRows
import Derived.Test.YtdiogipdcpiffaaBase
set_option linter.unusedVariables false
set_option maxHeartbeats 400000
namespace Go.Proofs.Ytdiogipdcpiffaa
open Go.RowKit

theorem infoU8 : (Try.prog.info? 5).map (fun i => (i.zero, i.size, i.bytes)) = some (some (.int .u8 0), 1, 1) := by kernel_rfl

/-- append(nil, make([]byte, n)...) -/
theorem run_append_zeros {P : Program} (w : World) (t ti ty e : TypeId) (i : TypeInfo) (z : Value) (ht : P.underlying t = some (.slice e)) (hti : P.underlying ti = some (.int .i64)) (hi : P.info? e = some i) (hz : i.zero = some z)
    (hsize : i.size = 1) (hzs : z.cells.size = 1) (hby : i.bytes = 1) (n : Nat) (h0 : 0 < n) (hn : n ≤ 70368744177664) :
    ∃ cap w', (Builtin.append_ #[t, ti] ty #[.slice none 0 0, .int .i64 (n : Int)]).run P w = .ok (.slice (some ⟨w.heap.size, 0, none⟩) n cap) w' ∧
      w'.ownsRow w.heap.size e 1 (.slice (some ⟨w.heap.size, 0, none⟩) 0 cap) 0 [] ∧ w.grownBy w' none ∧ 0 < cap := by
  have hw : IntKind.i64.wrap (n : Int) = n := IntWalk.i64_in _ (by omega)
  have n1 : ¬ ((n : Int) < 0) := by omega
  have n2 : ¬ ((n : Int) * 1 > 2 ^ 48) := by omega
  have n2' : ¬ (281474976710656 < (n : Int)) := by omega
  have n3 : ¬ (9223372036854775807 < (n : Int)) := by omega
  have h48' : ¬ (281474976710656 < Builtin.nextslicecap n 0) := by rw [nextslicecap_zero h0]; omega
  have hnz : n ≠ 0 := by omega
  have hge := grownCap_ge w n 0 e
  refine ⟨grownCap w n 0 e, w.drew.alloc (.cells (Builtin.zeroCells z.cells n ++ Builtin.zeroCells z.cells (grownCap w n 0 e - n)) e), ?_, ?_, ⟨rfl, rfl, rfl, by simp, fun k hk _ => Below.heap_alloc w.drew _ k hk⟩, by omega⟩
  · simp [Builtin.append_, run_underlying ht, run_underlying hti, sizeOf, typeInfo, zeroValue, hi, hz, hw, asInt, asIntOf, n1, n2', n3, hby, hsize, h48', hnz, Builtin.firstCells, Question.forced, newRow, grownCap]
  · refine World.ownsRow_made w.drew _ _ (Nat.le_refl _) (grownCap_le_maxLen w n 0 e (by simp [maxLen]; omega)) ?_
    simp [size_zeroCells, hzs]; omega

end Go.Proofs.Ytdiogipdcpiffaa
