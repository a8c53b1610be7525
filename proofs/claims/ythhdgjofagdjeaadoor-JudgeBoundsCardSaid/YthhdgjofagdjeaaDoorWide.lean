/- Loads and stores of whole blocks of many cells, as single steps of a walk. No program is named here. -/
import Derived.Test.YthhdgjofagdjeaaDoorStopS
import Derived.Laws.Rows
import Derived.Lib.ReflectliteSwap
set_option linter.unusedVariables false
set_option linter.unusedSimpArgs false
namespace Go.Proofs.YthhdgjofagdjeaaDoor
open Go.RowKit
section
variable {P : Program} {ops : Array Oper} {rest : List Oper} {o : Oper} {a : Act} {w w' : World} {Q : Exit → Act → World → Prop}
theorem wpList_skip_ran (hg : o.guard = none) (hr : (execOp a.eval o).run P w = .ok .skip w') (h : wpList P ops Q rest (a.put o.dst undef) w') : wpList P ops Q (o :: rest) a w := by
  refine wpList_plain hg fun K hK => ?_
  unfold Oper.wp
  rw [hr]
  exact hK _ _ h
theorem wpList_load_wide (ty : TypeId) {d : TypeDesc} {b : Nat} {t : TypeId} {cs : List Value} (x : Operand) (hb : Box w b t cs) (hu : P.underlying ty = some d) (hd : (match d with | .struct _ | .array _ _ => true | _ => false) = true)
    (hi : (P.info? ty).map (·.size) = some cs.length) (ho : o.op = .load ty x) (hg : o.guard = none) (hx : a.eval x = .pointer (some ⟨b, 0, none⟩)) (h : wpList P ops Q rest (a.put o.dst (.agg cs.toArray)) w) : wpList P ops Q (o :: rest) a w :=
  wpList_ran hg (by simp [execOp, ho, hx, Instr.loadAt, Instr.sureAddr, Sem.run_bind, Result.andThen, run_loadVar_row w b t ty cs.toArray (0, 0) d hb hu hd (by simpa using hi)]) h
theorem Box.setAll {b : Nat} {t : TypeId} : ∀ (vs cs pre : List Value) (w : World), Box w b t (pre ++ cs) → cs.length = vs.length → Box (w.setCells b pre.length vs) b t (pre ++ vs)
  | [], cs, pre, w, hb, hl => by
    obtain rfl : cs = [] := List.eq_nil_of_length_eq_zero hl
    exact hb
  | v :: vs, [], pre, w, hb, hl => by simp at hl
  | v :: vs, c :: cs, pre, w, hb, hl => by
    have h1 := hb.set pre.length v
    rw [List.set_append_right _ _ (Nat.le_refl _), Nat.sub_self, List.set_cons_zero] at h1
    have h2 := Box.setAll vs cs (pre ++ [v]) (w.setCell ⟨b, pre.length, none⟩ v) (by simpa using h1) (by simpa using hl)
    rw [List.length_append, List.append_assoc] at h2
    exact h2
theorem wpList_store_wide (ty : TypeId) {b : Nat} {t : TypeId} {cs vs : List Value} {i : TypeInfo} (x y : Operand) (hb : Box w b t cs) (hi : P.info? ty = some i) (hs : vs.length = i.size) (hc : cs.length = i.size) (h1 : ∀ v ∈ vs, v.oneCell' = true)
    (ho : o.op = .store ty x y) (hg : o.guard = none) (hx : a.eval x = .pointer (some ⟨b, 0, none⟩)) (hy : a.eval y = .agg vs.toArray)
    (h : ∀ w', Box w' b t vs → Keeps (OneB b) w w' → wpList P ops Q rest (a.put o.dst undef) w') : wpList P ops Q (o :: rest) a w := by
  have hr := Lib.rl_storeVar_cells (P := P) ty i hi b 0 vs hs h1 w (fun k hk => by
    rw [hb.reads.1, List.getElem?_eq_getElem (by omega)]; rfl) (fun k hk => by rw [hb.reads.2])
  refine wpList_skip_ran hg (w' := w.setCells b 0 vs) (by simp [execOp, ho, hx, hy, Instr.storeAt, Instr.sureAddr, Result.andThen, hr]) (h _ ?_ ?_)
  · exact Box.setAll vs cs [] w hb (by omega)
  · exact (Keeps.refl _ _).setCells b 0 vs (.inl rfl)
theorem wpList_box_wide (ty : TypeId) {vs : List Value} (x : Operand) (ho : o.op = .box ty x) (hg : o.guard = none) (hx : a.eval x = .agg vs.toArray)
    (h : ∀ w', Box w' w.heap.size ty vs → Ext w w' → w'.heap.size = w.heap.size + 1 → wpList P ops Q rest (a.put o.dst (.pointer (some ⟨w.heap.size, 0, none⟩))) w') : wpList P ops Q (o :: rest) a w :=
  wpList_ran hg (w' := w.alloc (.cells vs.toArray ty)) (by simp [execOp, ho, hx, Instr.box, newVar, newRow, Value.cells, Result.andThen]) (h _ (Box.new _ _ _) ((Keeps.refl _ _).alloc _) (by simp))
theorem wpList_alloc_wide (ty : TypeId) {vs : List Value} (hz : (zeroValue ty).run P w = .ok (.agg vs.toArray) w) (ho : o.op = .alloc ty) (hg : o.guard = none)
    (h : ∀ w', Box w' w.heap.size ty vs → Ext w w' → w'.heap.size = w.heap.size + 1 → wpList P ops Q rest (a.put o.dst (.pointer (some ⟨w.heap.size, 0, none⟩))) w') : wpList P ops Q (o :: rest) a w :=
  wpList_ran hg (w' := w.alloc (.cells vs.toArray ty)) (by simp [execOp, ho, Instr.alloc, hz, newVar, newRow, Value.cells, Result.andThen]) (h _ (Box.new _ _ _) ((Keeps.refl _ _).alloc _) (by simp))
theorem wpList_build_wide (ty : TypeId) {v : Value} {parts : Array (Nat × Operand)} (ho : o.op = .build ty parts) (hg : o.guard = none) (hr : (Instr.build ty (parts.map fun (i, x) => (i, a.eval x))).run P w = .ok v w)
    (h : wpList P ops Q rest (a.put o.dst v) w) : wpList P ops Q (o :: rest) a w :=
  wpList_ran hg (by simp [execOp, ho, hr, Result.andThen]) h
end
end Go.Proofs.YthhdgjofagdjeaaDoor
