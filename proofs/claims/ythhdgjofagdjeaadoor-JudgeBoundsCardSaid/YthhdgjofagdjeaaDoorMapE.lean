/- A map from entries to bools, all true: a set, in the order of its entries: look-up, store, making. Conditions: it lies as 'EnSet' says. No program's function is named here. -/
import Derived.Test.YthhdgjofagdjeaaDoorJC
import Derived.DeepKeys5
import Derived.Maps.Own
set_option linter.unusedVariables false
set_option linter.unusedSimpArgs false
set_option maxRecDepth 100000
set_option maxHeartbeats 400000
namespace Go.Proofs.YthhdgjofagdjeaaDoor
open Go.RowKit Go.WideMaps Go.ChangeMaps

def OkE (e : En) : Prop := I64 e.kind ∧ I64 e.member ∧ I64 e.number ∧ e.text.length ≤ maxLen
theorem En.v_inj {p q : En} (h : p.v = q.v) : p = q := by
  obtain ⟨a, b, c, d⟩ := p
  obtain ⟨a', b', c', d'⟩ := q
  simp [En.v] at h
  obtain ⟨h1, h2, h3, h4⟩ := h
  rw [h1, h2, h3, bs_inj h4]
theorem en_law : Go.Maps.Keyed Tryd.prog 35 :=
  Go.Maps.Keyed.of_law (deep_law_gate (by kernel_rfl) (by decide +kernel) (by decide +kernel) (by kernel_rfl) (by kernel_rfl))
theorem en_types : Tryd.prog.keyType 35 = true := by kernel_rfl
theorem en_types_size : Tryd.prog.types.size + 1 = (Tryd.prog.types.size - 1) + 1 + 1 := by kernel_rfl
theorem keyLits_i {P : Program} {d : Nat} {t : TypeId} {n : Int} (ht : P.underlying t = some (.int .i64)) (hw : I64 n) : P.keyLits (d + 1) t [.int .i64 n] = some [.int .i64 n] := by
  unfold Program.keyLits
  simp only [ht]
  rw [if_pos ⟨trivial, wf_i64 hw⟩]
theorem keyLits_s {P : Program} {d : Nat} {t : TypeId} {l : List UInt8} (ht : P.underlying t = some .string) (hw : l.length ≤ maxLen) : P.keyLits (d + 1) t [.string (bs l)] = some [.string l] := by
  unfold Program.keyLits
  simp only [ht]
  rw [if_pos (by rw [bs_size]; exact hw), bs_data]
theorem en_key {e : En} (h : OkE e) : ∃ l, keyOf Tryd.prog 35 e.v = some l := by
  obtain ⟨h1, h2, h3, h4⟩ := h
  have k1 := keyLits_i (d := Tryd.prog.types.size - 1) Tryd.underlying33 h1
  have k2 := keyLits_i (d := Tryd.prog.types.size - 1) Tryd.underlying3 h2
  have k3 := keyLits_i (d := Tryd.prog.types.size - 1) Tryd.underlying2 h3
  have k4 := keyLits_s (d := Tryd.prog.types.size - 1) Tryd.underlying9 h4
  have hc : Tryd.prog.cellsOf 35 = 4 := by kernel_rfl
  have c1 : Tryd.prog.cellsOf 33 = 1 := by kernel_rfl
  have c2 : Tryd.prog.cellsOf 3 = 1 := by kernel_rfl
  have c3 : Tryd.prog.cellsOf 2 = 1 := by kernel_rfl
  have c4 : Tryd.prog.cellsOf 9 = 1 := by kernel_rfl
  have hl : Tryd.prog.keyLits ((Tryd.prog.types.size - 1) + 1 + 1) 35 e.cells = some [.int .i64 e.kind, .int .i64 e.member, .int .i64 e.number, .string e.text] := by
    unfold Program.keyLits En.cells
    simp only [Tryd.underlying35, hc]
    rw [if_pos ⟨rfl, by decide +kernel⟩]
    simp only [List.mapM_cons, List.mapM_nil, c1, c2, c3, c4, List.drop_zero, List.drop_succ_cons, List.take_succ_cons, List.take_zero, k1, k2, k3, k4]
    rfl
  rw [← en_types_size] at hl
  have hf : e.v.formed Tryd.prog 35 = true := by
    unfold En.v Value.formed
    simp only [Tryd.underlying35, hc]
    rfl
  have hcs : e.v.cells.toList = e.cells := rfl
  refine ⟨.string (keyBytes [.int .i64 e.kind, .int .i64 e.member, .int .i64 e.number, .string e.text]), ?_⟩
  unfold keyOf
  simp only [Tryd.underlying35]
  rw [if_pos (by rw [en_types, hf]; rfl), hcs, hl]
  rfl

/-- the block is a map whose keys are D, in this order, all true -/
def EnSet (w : World) (m : Nat) (D : List En) : Prop :=
  ∃ es clock, w.heap[m]? = some (.map es clock) ∧ Go.MapKept.Stamped es clock ∧ es.toList.map (fun e => (e.key, e.val)) = D.map (fun p => (p.v, Value.bool true)) ∧ ∀ p ∈ D, OkE p
section
variable {w w' : World} {m : Nat} {D : List En}
theorem EnSet.lt (h : EnSet w m D) : m < w.heap.size := let ⟨_, _, h1, _⟩ := h; (Array.getElem?_eq_some_iff.1 h1).1
theorem EnSet.keeps {S : Nat → Prop} (h : EnSet w m D) (hk : Keeps S w w') (hs : ¬ S m) : EnSet w' m D := by
  have hl := h.lt
  obtain ⟨es, c, h1, h2⟩ := h
  exact ⟨es, c, (hk.block m hl hs).trans h1, h2⟩
theorem EnSet.ext (h : EnSet w m D) (hk : Ext w w') : EnSet w' m D := h.keeps hk (noB _)
theorem enset_new (w : World) : EnSet (w.alloc (.map #[] 0)) w.heap.size [] :=
  ⟨#[], 0, World.alloc_heap_new w _, by unfold Go.MapKept.Stamped; simp, rfl, by simp⟩
theorem enset_get {es : List MapEntry} {j : Nat} {e : MapEntry} (h : es.map (fun e => (e.key, e.val)) = D.map (fun p => (p.v, Value.bool true))) (he : es[j]? = some e) : ∃ p, D[j]? = some p ∧ e.key = p.v ∧ e.val = .bool true := by
  have h1 := congrArg (·[j]?) h
  simp only [List.getElem?_map, he, Option.map_some] at h1
  cases hd : D[j]? with
  | none => rw [hd] at h1; simp at h1
  | some p =>
    rw [hd] at h1
    simp at h1
    exact ⟨p, rfl, h1.1, h1.2⟩
theorem enset_mem {es : List MapEntry} (h : es.map (fun e => (e.key, e.val)) = D.map (fun p => (p.v, Value.bool true))) {e : MapEntry} (he : e ∈ es) : ∃ p ∈ D, e.key = p.v ∧ e.val = .bool true := by
  obtain ⟨j, hj, rfl⟩ := List.getElem_of_mem he
  obtain ⟨p, h1, h2⟩ := enset_get h (List.getElem?_eq_getElem hj)
  exact ⟨p, List.mem_of_getElem? h1, h2⟩
theorem enset_find {es : List MapEntry} (h : es.map (fun e => (e.key, e.val)) = D.map (fun p => (p.v, Value.bool true))) (hD : ∀ p ∈ D, OkE p) {e : En} (ha : OkE e) :
    ((Instr.findKey 35 e.v es).run Tryd.prog w = .ok none w ∧ e ∉ D) ∨ ∃ j, (Instr.findKey 35 e.v es).run Tryd.prog w = .ok (some (j, .bool true)) w ∧ D[j]? = some e ∧ ∃ x, es[j]? = some x ∧ x.key = e.v := by
  obtain ⟨l, hl⟩ := en_key ha
  have hkeys : ∀ x ∈ es, ∃ l, keyOf Tryd.prog 35 x.key = some l := fun x hx => by
    obtain ⟨p, hp, hk, _⟩ := enset_mem h hx
    rw [hk]
    exact en_key (hD p hp)
  rcases en_law.find w hl es hkeys with ⟨h1, h2⟩ | ⟨j, x, h1, h2, h3⟩
  · refine .inl ⟨h1, fun hm => ?_⟩
    obtain ⟨j, hj, hjd⟩ := List.getElem_of_mem hm
    have hlen : es.length = D.length := by simpa using congrArg List.length h
    obtain ⟨p, hp, hk, _⟩ := enset_get (D := D) h (List.getElem?_eq_getElem (show j < es.length by omega))
    rw [List.getElem?_eq_getElem hj, hjd] at hp
    cases hp
    exact h2 _ (List.getElem_mem _) hk
  · obtain ⟨p, hp, hk, hv⟩ := enset_get h h2
    rw [hv] at h1
    refine .inr ⟨j, h1, ?_, x, h2, h3⟩
    rw [hp, En.v_inj (hk.symm.trans h3)]
theorem zeroB (w : World) : (zeroValue 4).run Tryd.prog w = .ok (.bool false) w := by kernel_rfl
/-- was it put in? -/
theorem run_enhas (h : EnSet w m D) {e : En} (ha : OkE e) :
    (Instr.lookup 72 (.map (some m)) e.v false).run Tryd.prog w = .ok (.bool (decide (e ∈ D))) w := by
  obtain ⟨es, clock, h1, h2, h3, h4⟩ := h
  obtain ⟨l, hl⟩ := en_key ha
  rcases enset_find (w := w) h3 h4 ha with ⟨h5, h6⟩ | ⟨j, h5, h8, _⟩
  · simp [Instr.lookup, run_underlying Tryd.underlying72, Go.MapKept.run_getObj_map h1, en_law.check w _ hl, h5, zeroB, Result.andThen, h6]
  · have hm := List.mem_of_getElem? h8
    simp [Instr.lookup, run_underlying Tryd.underlying72, Go.MapKept.run_getObj_map h1, en_law.check w _ hl, h5, Result.andThen, hm]
/-- 'm[e] = true', e not there -/
theorem run_enput (h : EnSet w m D) {e : En} (ha : OkE e) (hn : e ∉ D) :
    ∃ w', (Instr.mapUpdate 72 (.map (some m)) e.v (.bool true)).run Tryd.prog w = .ok () w' ∧ EnSet w' m (D ++ [e]) ∧ Keeps (OneB m) w w' := by
  obtain ⟨es, clock, h1, h2, h3, h4⟩ := h
  obtain ⟨l, hl⟩ := en_key ha
  rcases enset_find (w := w) h3 h4 ha with ⟨h5, h6⟩ | ⟨j, h5, h8, _⟩
  · refine ⟨setBlock w m (.map (es.push ⟨e.v, .bool true, clock⟩) (clock + 1)), by simp [Instr.mapUpdate, run_underlying Tryd.underlying72, Go.MapKept.run_getObj_map h1, en_law.check w _ hl, h5, Go.MapKept.run_setObj_map _ h1, Result.andThen, setBlock], ?_, ?_⟩
    · refine ⟨_, _, Go.ChangeMaps.heap_setBlock_same h1 _, Go.MapKept.stamped_push h2 (fun x hx he => ?_), ?_, ?_⟩
      · obtain ⟨p, hp, hk, _⟩ := enset_mem h3 hx
        rw [hk] at he
        exact hn (En.v_inj he ▸ hp)
      · rw [Array.toList_push, List.map_append, h3, List.map_append]; rfl
      · intro p hp
        rcases List.mem_append.1 hp with hp | hp
        · exact h4 p hp
        · obtain rfl := List.mem_singleton.1 hp; exact ha
    · exact ⟨rfl, rfl, rfl, by simp [setBlock], fun i _ hi => Go.ChangeMaps.heap_setBlock_other h1 _ hi⟩
  · exact absurd (List.mem_of_getElem? h8) hn
/-- 'm[e] = true', e there already -/
theorem run_enput_same (h : EnSet w m D) {e : En} (ha : OkE e) (hn : e ∈ D) :
    ∃ w', (Instr.mapUpdate 72 (.map (some m)) e.v (.bool true)).run Tryd.prog w = .ok () w' ∧ EnSet w' m D ∧ Keeps (OneB m) w w' := by
  obtain ⟨es, clock, h1, h2, h3, h4⟩ := h
  obtain ⟨l, hl⟩ := en_key ha
  rcases enset_find (w := w) h3 h4 ha with ⟨h5, h6⟩ | ⟨j, h5, h8, x, hx, hxk⟩
  · exact absurd hn h6
  · have hx' : es[j]? = some x := by rw [← Array.getElem?_toList]; exact hx
    have hsb : Instr.sameBits 10000 x.key e.v = true := by
      rw [hxk]
      simp [Instr.sameBits, En.v]
      first | exact (show (e.text.toArray == e.text.toArray) = true by simp) | (unfold bs; simp [BEq.beq]) | rfl
    have hks : (Instr.keyThatStays x.key e.v).run Tryd.prog w = .ok e.v w := by
      unfold Instr.keyThatStays
      rw [if_pos hsb]
      rfl
    refine ⟨setBlock w m (.map (es.modify j fun y => { y with key := e.v, val := .bool true }) clock), by simp [Instr.mapUpdate, run_underlying Tryd.underlying72, Go.MapKept.run_getObj_map h1, en_law.check w _ hl, h5, hx', hks, Go.MapKept.run_setObj_map _ h1, Result.andThen, setBlock], ?_, ?_⟩
    · have hv : x.val = .bool true := by
        obtain ⟨p, _, _, hv⟩ := enset_get h3 hx
        exact hv
      have hsame : es.modify j (fun y => { y with key := e.v, val := .bool true }) = es := by
        apply Array.ext_getElem?
        intro i
        rw [Array.getElem?_modify]
        split
        · rename_i hij
          subst hij
          rw [hx', Option.map_some, ← hxk, ← hv]
        · rfl
      rw [hsame]
      exact ⟨es, clock, Go.ChangeMaps.heap_setBlock_same h1 _, h2, h3, h4⟩
    · exact ⟨rfl, rfl, rfl, by simp [setBlock], fun i _ hi => Go.ChangeMaps.heap_setBlock_other h1 _ hi⟩
end
end Go.Proofs.YthhdgjofagdjeaaDoor
