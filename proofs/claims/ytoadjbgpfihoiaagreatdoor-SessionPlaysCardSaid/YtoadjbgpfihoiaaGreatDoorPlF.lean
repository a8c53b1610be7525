/- Texts StrS, one behind the other. Conditions: as each says. -/
import Derived.Test.YtoadjbgpfihoiaaGreatDoorPlA
import Derived.Lib.ConvBytes
set_option linter.unusedVariables false
set_option linter.unusedSimpArgs false
set_option maxHeartbeats 8000000
set_option maxRecDepth 100000
namespace Go.Proofs.YtoadjbgpfihoiaaGreatDoor
open Go.RowKit
theorem Bytes.str {w : World} {A : Nat → Prop} {v : Value} {l : List UInt8} (h : Bytes w A v l) :
 (convert 27 9 v).run Tryz.prog w = .ok (.string (bs l)) w := by
 rcases h with ⟨a, rfl, rfl⟩ | ⟨b, o, c, rfl, h1, h2, h3⟩
 · cases a with
   | some ad => exact run_convert_bytes_back w 27 9 5 ad 0 [] Tryz.underlying27 Tryz.underlying5 Tryz.underlying9 fun j hj => by simp at hj
   | none =>
   rw [run_convert_bytes_string w 27 9 5 none 0 0 Tryz.underlying27 Tryz.underlying5 Tryz.underlying9]; rfl
 · refine run_convert_bytes_back w 27 9 5 ⟨b, o, none⟩ c l Tryz.underlying27 Tryz.underlying5 Tryz.underlying9 fun j hj => ?_
   have := h3 j hj; unfold ByteAt byV at this; by_cases hj0 : j = 0
   · subst hj0; simpa [Addr.add] using this
   · simpa [Addr.add, hj0] using this
theorem conv_bytes (w : World) (l : List UInt8) :
 ∃ v' w', (convert 9 27 (.string (bs l))).run Tryz.prog w = .ok v' w' ∧ Bytes w' (fun k => w.heap.size ≤ k ∧ k < w'.heap.size) v' l ∧ Ext w w' ∧ w'.heap.size = w.heap.size + 1 := by
 have hr := Lib.run_convert_string_bytes (P := Tryz.prog) w 9 27 5 (bs l) (u := .string) Tryz.underlying9 Tryz.underlying27 Tryz.underlying5; rw [bs_size] at hr; have hsz := Lib.bytesWorld_size w 5 (bs l); refine ⟨_, _, hr, .inr ⟨w.heap.size, 0, _, rfl, by have := grownCap_ge w l.length 0 5; omega, ⟨Nat.le_refl _, by omega⟩, fun i hi => ?_⟩, ⟨?_, ?_, ?_, by omega, fun k hk _ => Lib.bytesWorld_at_old w _ _ k hk⟩, hsz⟩
 · have := Lib.bytesWorld_cell w 5 (bs l) i (by rw [bs_size]; exact hi)
   rw [bs_data] at this; unfold ByteAt byV; simpa [List.getD, hi] using this
 all_goals simp [Lib.bytesWorld, World.freeze, World.alloc, World.drew, -World.alloc_eq, -World.drew_eq]
theorem make_bytes (w : World) (n : Nat) (hn : n ≤ 70368744177664) (z : Int) (hz : z = n) :
 ∃ w', (Instr.makeSlice 27 (.int .i64 z) (.int .i64 z)).run Tryz.prog w = .ok (.slice (some ⟨w.heap.size, 0, none⟩) n n) w' ∧ Box w' w.heap.size 5 ((List.replicate n (0 : UInt8)).map byV) ∧ Ext w w' ∧ w'.heap.size = w.heap.size + 1 := by
 subst hz; obtain ⟨i0, hi, hz0, hz1, hz2⟩ := info_parts infoU8; have h := run_make (P := Tryz.prog) w 27 5 i0 (.int .u8 0) Tryz.underlying27 hi hz0 .i64 .i64 (n : Int) (n : Int) (by omega) (Int.le_refl _) (by rw [hz2]; omega) (by omega); simp only [Int.toNat_natCast, hz1] at h; refine ⟨_, h, ?_, (Keeps.refl _ _).alloc _, by simp⟩; unfold Box; rw [World.alloc_heap_new]; congr 2
 simp only [madeCells, byV, Value.cells, List.size_toArray, List.length_cons, List.length_nil, Nat.mul_one, List.map_replicate]; apply Array.ext
 · simp
 · intro i h1 h2
   simp [Nat.mod_one]
end Go.Proofs.YtoadjbgpfihoiaaGreatDoor
