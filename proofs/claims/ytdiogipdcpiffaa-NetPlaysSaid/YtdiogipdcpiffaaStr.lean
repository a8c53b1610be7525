/- Conversions between strings and bytes, and make of bytes: what they give. Conditions: the bytes lie as 'Bytes' says. -/
import Derived.Test.YtdiogipdcpiffaaU8
import Derived.Lib.ConvBytes
import Derived.Laws.IdiomStrings
set_option linter.unusedVariables false
set_option maxRecDepth 100000
namespace Go.Proofs.Ytdiogipdcpiffaa
open Go.RowKit

def bs (l : List UInt8) : ByteArray := ⟨l.toArray⟩
theorem bs_size (l : List UInt8) : (bs l).size = l.length := by simp [bs, ByteArray.size]
theorem bs_data (l : List UInt8) : (bs l).data.toList = l := by simp [bs]
theorem bs_of (s : ByteArray) : bs s.data.toList = s := by simp [bs]

theorem Bytes.str {w : World} {A : Nat → Prop} {v : Value} {l : List UInt8} (h : Bytes w A v l) :
    (convert 30 9 v).run Try.prog w = .ok (.string (bs l)) w := by
  rcases h with ⟨a, rfl, rfl⟩ | ⟨b, o, c, rfl, h1, h2, h3⟩
  · cases a with
    | some ad => exact run_convert_bytes_back w 30 9 5 ad 0 [] Try.underlying30 Try.underlying5 Try.underlying9 fun j hj => by simp at hj
    | none =>
    rw [run_convert_bytes_string w 30 9 5 none 0 0 Try.underlying30 Try.underlying5 Try.underlying9]
    rfl
  · refine run_convert_bytes_back w 30 9 5 ⟨b, o, none⟩ c l Try.underlying30 Try.underlying5 Try.underlying9 fun j hj => ?_
    have := h3 j hj
    unfold ByteAt byV at this
    by_cases hj0 : j = 0
    · subst hj0; simpa [Addr.add] using this
    · simpa [Addr.add, hj0] using this

theorem conv_bytes (w : World) (l : List UInt8) :
    ∃ v' w', (convert 9 30 (.string (bs l))).run Try.prog w = .ok v' w' ∧ Bytes w' (fun k => w.heap.size ≤ k ∧ k < w'.heap.size) v' l ∧ Ext w w' ∧ w'.heap.size = w.heap.size + 1 := by
  have hr := Lib.run_convert_string_bytes (P := Try.prog) w 9 30 5 (bs l) (u := .string) Try.underlying9 Try.underlying30 Try.underlying5
  rw [bs_size] at hr
  have hsz := Lib.bytesWorld_size w 5 (bs l)
  refine ⟨_, _, hr, .inr ⟨w.heap.size, 0, _, rfl, by have := grownCap_ge w l.length 0 5; omega, ⟨Nat.le_refl _, by omega⟩, fun i hi => ?_⟩, ⟨?_, ?_, ?_, by omega, fun k hk _ => Lib.bytesWorld_at_old w _ _ k hk⟩, hsz⟩
  · have := Lib.bytesWorld_cell w 5 (bs l) i (by rw [bs_size]; exact hi)
    rw [bs_data] at this
    unfold ByteAt byV
    simpa [List.getD, hi] using this
  all_goals simp [Lib.bytesWorld, World.freeze, World.alloc, World.drew, -World.alloc_eq, -World.drew_eq]

/-- make([]byte, n) -/
theorem make_bytes (w : World) (n : Nat) (hn : n ≤ 70368744177664) (z : Int) (hz : z = n) :
    ∃ w', (Instr.makeSlice 30 (.int .i64 z) (.int .i64 z)).run Try.prog w = .ok (.slice (some ⟨w.heap.size, 0, none⟩) n n) w' ∧ Box w' w.heap.size 5 ((List.replicate n (0 : UInt8)).map byV) ∧ Ext w w' ∧ w'.heap.size = w.heap.size + 1 := by
  subst hz
  obtain ⟨i0, hi, hz0, hz1, hz2⟩ := info_parts infoU8
  have h := run_make (P := Try.prog) w 30 5 i0 (.int .u8 0) Try.underlying30 hi hz0 .i64 .i64 (n : Int) (n : Int) (by omega) (Int.le_refl _) (by rw [hz2]; omega) (by omega)
  simp only [Int.toNat_natCast, hz1] at h
  refine ⟨_, h, ?_, (Keeps.refl _ _).alloc _, by simp⟩
  unfold Box
  rw [World.alloc_heap_new]
  congr 2
  simp only [madeCells, byV, Value.cells, List.size_toArray, List.length_cons, List.length_nil, Nat.mul_one, List.map_replicate]
  apply Array.ext
  · simp
  · intro i h1 h2
    simp [Nat.mod_one]

theorem str_loop (b : ByteArray) : ∀ (n i : Nat) (r : List UInt8), b.size - i = n → ByteArray.toList.loop b i r = r.reverse ++ b.data.toList.drop i
  | 0, i, r, h => by
    unfold ByteArray.toList.loop
    have hs : b.size = b.data.toList.length := by rw [Array.length_toList]; rfl
    rw [if_neg (by omega), List.drop_of_length_le (by omega)]
    simp
  | n + 1, i, r, h => by
    unfold ByteArray.toList.loop
    have hs : b.size = b.data.toList.length := by rw [Array.length_toList]; rfl
    rw [if_pos (by omega), str_loop b n (i + 1) _ (by omega)]
    have hi : i < b.data.toList.length := by omega
    rw [List.drop_eq_getElem_cons hi]
    have : b.get! i = b.data.toList[i] := by
      simp [ByteArray.get!]
      rw [getElem!_pos]
    simp [this]
/-- a string's letters -/
theorem bs_toList (l : List UInt8) : (bs l).toList = l := by
  unfold ByteArray.toList
  rw [str_loop _ _ 0 [] rfl]; simp [bs]
end Go.Proofs.Ytdiogipdcpiffaa
