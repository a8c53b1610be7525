/- An argument as it is read, opened to what lies in memory: readers, type by type. No program's function is named here. -/
import Derived.Test.YthhdgjofagdjeaaDoorRows
import Derived.Test.YthhdgjofagdjeaaDoorBs
import Derived.OpenShut
import Derived.Deep.Slices
import Derived.ChangeSame
import Derived.Carry
set_option linter.unusedVariables false
set_option linter.unusedSimpArgs false
set_option maxRecDepth 100000
namespace Go.Proofs.YthhdgjofagdjeaaDoor
open Go.RowKit Go.ChangeShapes Go.WideShapes

def Old (w : World) : Nat → Prop := fun k => k < w.heap.size
/-- a reader: whatever reads as data of the type t, its cells are as En says -/
def Rd {H : Type} (enc : TypeId × Value → H) (P : Program) (w : World) (t : TypeId) {α : Type} (En : List Value → α → Prop) : Prop :=
  ∀ (fuel : Nat) (cs : List Value) (x : DataW H × List MemPlace), DataW.trod enc P w 0 (fun _ => true) true fuel t cs = some x → ∃ a : α, En cs a

section
variable {H : Type} {enc : TypeId × Value → H} {P : Program} {w : World}
theorem rd_int {t : TypeId} {k : IntKind} (ht : P.underlying t = some (.int k)) : Rd enc P w t fun cs (n : Int) => cs = [.int k n] ∧ (Lit.int k n).wf = true := fun fuel cs x h =>
  let ⟨n, h1, _, h2⟩ := DataW.trod_int ht h
  ⟨n, h1, h2⟩
theorem rd_bool {t : TypeId} (ht : P.underlying t = some .bool) : Rd enc P w t fun cs (b : Bool) => cs = [.bool b] := fun fuel cs x h =>
  let ⟨n, h1, _⟩ := DataW.trod_bool ht h
  ⟨n, h1⟩
theorem rd_string {t : TypeId} (ht : P.underlying t = some .string) : Rd enc P w t fun cs (l : List UInt8) => cs = [.string (bs l)] ∧ l.length ≤ 9223372036854775807 := fun fuel cs x h => by
  obtain ⟨s, h1, _, h2⟩ := DataW.trod_string ht h
  refine ⟨s.data.toList, by rw [h1, bs_of], ?_⟩
  simp only [maxLen] at h2
  simpa using h2
theorem rd_byte {t : TypeId} (ht : P.underlying t = some (.int .u8)) : Rd enc P w t fun cs (c : UInt8) => cs = [byV c] := fun fuel cs x h => by
  obtain ⟨n, h1, _, h2⟩ := DataW.trod_int ht h
  have hb : 0 ≤ n ∧ n ≤ 255 := by simpa [Lit.wf, IntKind.min, IntKind.max, IntKind.signed, IntKind.bits] using h2
  refine ⟨UInt8.ofNat n.toNat, ?_⟩
  have : (UInt8.ofNat n.toNat).toNat = n.toNat := by simp; omega
  show cs = [Value.int .u8 ((UInt8.ofNat n.toNat).toNat : Int)]
  rw [h1, this, Int.toNat_of_nonneg hb.1]

theorem list_of_each {α : Type} {p : Nat → α → Prop} : ∀ n, (∀ i, i < n → ∃ a, p i a) → ∃ l : List α, l.length = n ∧ ∀ i (h : i < l.length), p i l[i]
  | 0, _ => ⟨[], rfl, fun i h => by simp at h⟩
  | n + 1, h => by
    obtain ⟨l, h1, h2⟩ := list_of_each n fun i hi => h i (by omega)
    obtain ⟨a, ha⟩ := h n (by omega)
    refine ⟨l ++ [a], by simp [h1], fun i hi => ?_⟩
    by_cases hil : i < l.length
    · rw [List.getElem_append_left hil]; exact h2 i hil
    · have : i = n := by simp at hi; omega
      subst this
      rw [List.getElem_append_right (by omega)]
      simpa [h1] using ha

/-- an element of C cells, in memory -/
def AtOf (w : World) {α : Type} (C : Nat) (En : List Value → α → Prop) (b o : Nat) (a : α) : Prop := ∃ cs, En cs a ∧ cs.length = C ∧ ∀ j, j < C → w.cell? ⟨b, o + j, none⟩ = cs[j]?

theorem rd_slice {t e : TypeId} {α : Type} {En : List Value → α → Prop} (C : Nat) (ht : P.underlying t = some (.slice e)) (hC : P.cellsOf e = C) (hC0 : 0 < C) (he : Rd enc P w e En) :
    Rd enc P w t fun cs (l : List α) => ∃ v, cs = [v] ∧ SlV (Old w) (AtOf w C En) C v l ∧ l.length ≤ 9223372036854775807 := fun fuel cs x h => by
  rcases Deep.open_slice ht h with ⟨h0, _⟩ | ⟨a, len, cap, m, n, D, Pl, h0, hb, hl, hm, hmm, hx, hi⟩
  · exact ⟨[], _, h0, SlV.nil, by simp⟩
  · simp only [if_true] at hmm
    subst hmm
    rw [hC] at hi
    have hm' : m ≤ 9223372036854775807 := hm
    by_cases hc0 : m = 0
    · subst hc0
      obtain rfl : len = 0 := by omega
      exact ⟨[], _, h0, .inl ⟨some a, rfl, rfl⟩, by simp⟩
    · obtain ⟨cs0, q1, q2⟩ := hi 0 (by omega)
      obtain ⟨_, q3, q4⟩ := World.cells?_some q1
      have hcell := q4 0 hC0
      have ha : (a.add (0 * C)).add 0 = a := by simp [Addr.add]
      rw [ha] at hcell
      obtain ⟨u, hu⟩ : ∃ u, w.cell? a = some u := ⟨_, by rw [hcell]; exact List.getElem?_eq_getElem (by omega)⟩
      obtain ⟨b, o, sp⟩ := a
      have hsp : sp = none := by
        cases sp with
        | none => rfl
        | some s =>
          exfalso
          simp only [World.cell?] at hu
          split at hu <;> simp at hu
      subst hsp
      have hbl : b < w.heap.size := World.block_lt_of_cell? _ _ hu
      obtain ⟨l, hll, hle⟩ := list_of_each (p := fun i (y : α) => AtOf w C En b (o + i * C) y) len fun i hil => by
        obtain ⟨cs', r1, r2⟩ := hi i (by omega)
        obtain ⟨_, r3, r4⟩ := World.cells?_some r1
        obtain ⟨y, hy⟩ := he _ _ _ r2
        refine ⟨y, cs', hy, r3, fun j hj => ?_⟩
        have := r4 j hj
        rwa [Deep.add_add, Addr.add_lit, ← Nat.add_assoc] at this
      subst hll
      exact ⟨l, _, h0, .inr ⟨b, o, m, rfl, hl, hbl, hle⟩, by omega⟩

theorem rd_bytes {t e : TypeId} (ht : P.underlying t = some (.slice e)) (hC : P.cellsOf e = 1) (he : P.underlying e = some (.int .u8)) :
    Rd enc P w t fun cs (l : List UInt8) => ∃ v, cs = [v] ∧ Bytes w (Old w) v l ∧ l.length ≤ 9223372036854775807 := fun fuel cs x h => by
  obtain ⟨l, v, h1, h2, h3⟩ := rd_slice 1 ht hC (by decide) (rd_byte he) fuel cs x h
  refine ⟨l, v, h1, SlV.mono h2 (fun _ h => h) fun b o c hb ⟨cs', k1, k2, k3⟩ => ?_, h3⟩
  subst k1
  exact k3 0 (by decide)

/-- a field of a struct -/
theorem rd_field {t : TypeId} {fs : Array Field} (ht : P.underlying t = some (.struct fs)) {fuel : Nat} {cs : List Value} {x : DataW H × List MemPlace} (h : DataW.trod enc P w 0 (fun _ => true) true fuel t cs = some x) :
    cs.length = P.cellsOf t ∧ ∀ (i : Nat) (f : Field) (o c : Nat) {α : Type} {En : List Value → α → Prop}, fs[i]? = some f → f.offset = o → P.cellsOf f.type = c → Rd enc P w f.type En → ∃ a, En ((cs.drop o).take c) a := by
  obtain ⟨xs, n, h1, h2, h3, h4, h5⟩ := DataW.trod_struct ht h
  refine ⟨h3, fun i f o c α En hf ho hc he => ?_⟩
  have h6 := h5 i f hf
  have hi : i < xs.length := by rw [h4]; exact (Array.getElem?_eq_some_iff.1 hf).1
  rw [List.getElem?_eq_getElem hi, ho, hc] at h6
  exact he _ _ _ h6
theorem ok_slice {t e : TypeId} {r : Reach} {b : Nat} {v : Value} (ht : P.underlying t = some (.slice e)) (hv : Value.okWide P w r b t v) : v.cells.toList = [v] := by
  unfold Value.okWide at hv
  rw [ht] at hv
  cases v <;> first | rfl | (simp [Cell.okWide, Cell.ok, ht] at hv; done)
theorem laidOut : laidOutB Tryd.prog = true := by kernel_rfl
/-- what was there reads as before -/
theorem Ext.trod {t : TypeId} (hr : Tryd.prog.readableRec t = true) (hrow : t < Tryd.prog.types.size) {W W' : World} {v : Value} {d : DataW H} {ps : List MemPlace} (h : DataW.Trod enc Tryd.prog W 0 (fun _ => true) true t v d ps) (hE : Ext W W')
    (hlt : ∀ x ∈ ps, x.block < W.heap.size) (sp : Nat → Bool) (hsp : ∀ x ∈ ps, sp x.block = true) : DataW.Trod enc Tryd.prog W' 0 sp true t v d ps :=
  WideElems.Trod_stays laidOut hr hrow h (fun x hx => hE.below.same (hlt x hx)) hsp
end
end Go.Proofs.YthhdgjofagdjeaaDoor
