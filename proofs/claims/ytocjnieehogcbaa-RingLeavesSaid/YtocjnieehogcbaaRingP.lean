/- The walk of RingMain: its function returns true, and of what was there nothing turns. Conditions: its argument lies as 'Acts' says. -/
import Derived.Test.YtocjnieehogcbaaRingO
set_option linter.unusedVariables false
set_option maxHeartbeats 400000
namespace Go.Proofs.Ytocjnieehogcbaa
open Go.RowKit

theorem RingX.grow {w w' : World} {N N' : Nat → Prop} {b : Nat} {R : AR} (h : RingX w N b R) (hk : Keeps N w w') (hb : ¬ N b) (hN : ∀ k, N' k → N k ∨ w.heap.size ≤ k) : RingX w' N' b R :=
  let ⟨f, A, h1, h2, h3⟩ := h
  ⟨f, A, h1.keeps hk hb fun k ha => (h3 k ha).2, h2, fun k ha => ⟨Nat.lt_of_lt_of_le (h3 k ha).1 hk.size, fun hn => by
    rcases hN k hn with h | h
    · exact (h3 k ha).2 h
    · have := (h3 k ha).1; omega⟩⟩

/-- the block of a slice -/
def Own (v : Value) : Nat → Prop := fun k => v.ownBlock = some k

theorem infoStr : (Try.prog.info? 9).map (fun i => (i.zero, i.size, i.bytes)) = some (some (.string ⟨#[]⟩), 1, 16) := by kernel_rfl
def strs (l : List (List UInt8)) : List Value := l.map fun x => .string (bs x)
theorem strs_len (l : List (List UInt8)) : (strs l).length = l.length := by simp [strs]

/-- append(put, s) -/
theorem append_str (w : World) (base : Nat) (v : Value) (put : List (List UInt8)) (x : List UInt8) (ty : TypeId) (h : Win w base 1 v put.length (strs put)) (hp : put.length ≤ 1000000) (hb : base ≤ w.heap.size) (g : Nat) (hg : w.cell? ⟨g, 0, none⟩ = some (.string (bs x))) :
    ∃ v' w', (Builtin.append_ #[40, 40] ty #[v, .slice (some ⟨g, 0, none⟩) 1 1]).run Try.prog w = .ok v' w' ∧ Win w' base 1 v' (put ++ [x]).length (strs (put ++ [x])) ∧ Keeps (Own v) w w' ∧ (v'.ownBlock = v.ownBlock ∨ v'.ownBlock = some w.heap.size) := by
  obtain ⟨i0, hi, hz0, hz1, hz2⟩ := info_parts infoStr
  obtain ⟨v', w', h1, h2, h3, h4⟩ := run_append_win (P := Try.prog) w base 40 40 ty 9 i0 _ 1 16 Try.underlying40 hi hz0 hz1 hz2 rfl v put.length (strs put) h
    (.slice (some ⟨g, 0, none⟩) 1 1) 1 [.string (bs x)] (Src.ofSlice w Try.underlying40 ⟨g, 0, none⟩ 1 1 _ rfl (by
      intro j u hu
      rw [Addr.add_lit]
      cases j with
      | zero => simp at hu; subst hu; simpa using hg
      | succ j => simp at hu) (by intro u hu; simp at hu; subst hu; rfl)) (by simp [maxLen]; omega) (by omega) hb
  refine ⟨v', w', h1, ?_, h3, h4⟩
  simpa [strs] using h2

theorem rmain_few {A : Nat → Prop} (w : World) (m : Int) (v : Value) (l : List Ac) (h : Acts w A v l) (hn : l.length ≤ 9223372036854775807) (hb : ∀ x ∈ l, x.item.bytes.length ≤ 9223372036854775807) (hf : fewOf l 80 = false) :
    Calls Try.prog 4 #[.int .i64 m, v] w fun e w' => e = .returned (.bool true) ∧ Ext w w' := by
  have HA := Lib.hid h
  have HB := Lib.hid hb
  obtain ⟨a, c, rfl, -⟩ := h.at
  clear h hb
  go_enter Try.func4, Try.ntmps4
  go_wp2_with fail
  refine (few_any _ _ l 80 HA.out hn HB.out).mono ?_
  rintro e w' ⟨rfl, rfl⟩
  go_wp2_with fail
  refine (works_any _).mono ?_
  rintro e w' ⟨rfl, hE⟩
  have HE := Lib.hid hE
  clear hE
  go_wp2_with fail
  go_ret
  exact ⟨rfl, HE.out⟩
theorem rmain_new {A : Nat → Prop} (w : World) (m : Int) (v : Value) (l : List Ac) (h : Acts w A v l) (hn : l.length ≤ 9223372036854775807) (hb : ∀ x ∈ l, x.item.bytes.length ≤ 9223372036854775807) (hf : fewOf l 80 = true) (hm : m < 1 ∨ 64 < m) :
    Calls Try.prog 4 #[.int .i64 m, v] w fun e w' => e = .returned (.bool true) ∧ Ext w w' := by
  have HA := Lib.hid h
  have HB := Lib.hid hb
  obtain ⟨a, c, rfl, -⟩ := h.at
  clear h hb
  go_enter Try.func4, Try.ntmps4
  go_wp2_with fail
  refine (few_any _ _ l 80 HA.out hn HB.out).mono ?_
  rintro e w' ⟨rfl, rfl⟩
  go_wp2_with fail
  refine (new_no _ m hm).mono ?_
  rintro e w' ⟨rfl, rfl⟩
  go_wp2_with fail
  refine (num_any _ _).mono ?_
  rintro e w' ⟨rfl, rfl⟩
  go_wp2_with fail
  refine (works_any _).mono ?_
  rintro e w' ⟨rfl, hE⟩
  have HE2 := Lib.hid hE
  clear hE
  go_wp2_with fail
  go_ret
  exact ⟨rfl, HE2.out⟩
end Go.Proofs.Ytocjnieehogcbaa
