/- A map from pairs of ints to bools, all true: a set, in the order of its entries: look-up, delete, store, making. Conditions: it lies as 'SetAt' says. -/
import Derived.Test.YtdiogipdcpiffaaRows
import Derived.Test.YtdiogipdcpiffaaBase
import Derived.DeepKeys5
import Derived.Maps.Own
set_option linter.unusedVariables false
set_option maxRecDepth 100000
set_option maxHeartbeats 400000
namespace Go.Proofs.Ytdiogipdcpiffaa
open Go.RowKit Go.WideMaps Go.ChangeMaps

def I64 (n : Int) : Prop := -9223372036854775808 ≤ n ∧ n ≤ 9223372036854775807
def pairV (p : Int × Int) : Value := .agg #[.int .i64 p.1, .int .i64 p.2]
theorem pairV_inj {p q : Int × Int} (h : pairV p = pairV q) : p = q := by
  obtain ⟨a, b⟩ := p
  obtain ⟨c, d⟩ := q
  simp [pairV] at h
  rw [h.1, h.2]
theorem pair_law : Go.Maps.Keyed Try.prog 78 :=
  Go.Maps.Keyed.of_law (deep_law_gate (by kernel_rfl) (by decide +kernel) (by decide +kernel) (by kernel_rfl) (by kernel_rfl))
theorem pair_types : Try.prog.keyType 78 = true := by kernel_rfl
theorem pair_types_size : Try.prog.types.size + 1 = (Try.prog.types.size - 1) + 1 + 1 := by kernel_rfl
theorem wf_i64 {a : Int} (h : I64 a) : (Lit.int .i64 a).wf = true := by
  unfold I64 at h
  simp [Lit.wf, IntKind.min, IntKind.max, IntKind.signed, IntKind.bits]; omega
theorem keyLits_int {P : Program} {d : Nat} {t : TypeId} {n : Int} (ht : P.underlying t = some (.int .i64)) (hw : (Lit.int .i64 n).wf = true) : P.keyLits (d + 1) t [.int .i64 n] = some [.int .i64 n] := by
  unfold Program.keyLits
  simp only [ht]
  rw [if_pos ⟨trivial, hw⟩]
theorem keyLits_pair {P : Program} {d : Nat} {t e : TypeId} {a b : Int} (ht : P.underlying t = some (.array 2 e)) (he : P.underlying e = some (.int .i64)) (hc : P.cellsOf t = 2) (hi : P.cellsOf e = 1) (ha : (Lit.int .i64 a).wf = true) (hb : (Lit.int .i64 b).wf = true) :
    P.keyLits (d + 1 + 1) t [.int .i64 a, .int .i64 b] = some [.int .i64 a, .int .i64 b] := by
  have h1 := keyLits_int (d := d) he ha
  have h2 := keyLits_int (d := d) he hb
  unfold Program.keyLits
  simp only [ht, hc, hi]
  simp only [List.range, List.range.loop, List.length_cons, List.length_nil, Nat.zero_add, Nat.reduceAdd, if_true, Nat.mul_one, List.drop_zero, List.take_succ_cons, List.take_zero, List.drop_succ_cons, List.mapM_cons, List.mapM_nil, h1, h2]
  rfl
theorem pair_key {a b : Int} (ha : I64 a) (hb : I64 b) : ∃ l, keyOf Try.prog 78 (pairV (a, b)) = some l := by
  have h1 := wf_i64 ha
  have h2 := wf_i64 hb
  have hc : Try.prog.cellsOf 78 = 2 := by kernel_rfl
  have hi : Try.prog.cellsOf 3 = 1 := by kernel_rfl
  have hl := keyLits_pair (d := Try.prog.types.size - 1) Try.underlying78 Try.underlying3 hc hi h1 h2
  rw [← pair_types_size] at hl
  have hf : (pairV (a, b)).formed Try.prog 78 = true := by
    unfold pairV Value.formed
    simp only [Try.underlying78, hc]
    rfl
  have hcs : (pairV (a, b)).cells.toList = [.int .i64 a, .int .i64 b] := rfl
  refine ⟨.string (keyBytes [.int .i64 a, .int .i64 b]), ?_⟩
  unfold keyOf
  simp only [Try.underlying78]
  rw [if_pos (by rw [pair_types, hf]; rfl), hcs, hl]
  rfl

/-- the block is a map whose keys are D, in this order, all true -/
def SetAt (w : World) (m : Nat) (D : List (Int × Int)) : Prop :=
  ∃ es clock, w.heap[m]? = some (.map es clock) ∧ Go.MapKept.Stamped es clock ∧ es.toList.map (fun e => (e.key, e.val)) = D.map (fun p => (pairV p, Value.bool true)) ∧ ∀ p ∈ D, I64 p.1 ∧ I64 p.2
section
variable {w w' : World} {m : Nat} {D : List (Int × Int)}
theorem SetAt.lt (h : SetAt w m D) : m < w.heap.size := let ⟨_, _, h1, _⟩ := h; (Array.getElem?_eq_some_iff.1 h1).1
theorem SetAt.keeps {S : Nat → Prop} (h : SetAt w m D) (hk : Keeps S w w') (hs : ¬ S m) : SetAt w' m D := by
  have hl := h.lt
  obtain ⟨es, c, h1, h2⟩ := h
  exact ⟨es, c, (hk.block m hl hs).trans h1, h2⟩
theorem SetAt.ext (h : SetAt w m D) (hk : Ext w w') : SetAt w' m D := h.keeps hk (noB _)
theorem set_new (w : World) : SetAt (w.alloc (.map #[] 0)) w.heap.size [] :=
  ⟨#[], 0, World.alloc_heap_new w _, by unfold Go.MapKept.Stamped; simp, rfl, by simp⟩
theorem set_get {es : List MapEntry} {j : Nat} {e : MapEntry} (h : es.map (fun e => (e.key, e.val)) = D.map (fun p => (pairV p, Value.bool true))) (he : es[j]? = some e) : ∃ p, D[j]? = some p ∧ e.key = pairV p ∧ e.val = .bool true := by
  have h1 := congrArg (·[j]?) h
  simp only [List.getElem?_map, he, Option.map_some] at h1
  cases hd : D[j]? with
  | none => rw [hd] at h1; simp at h1
  | some p =>
    rw [hd] at h1
    simp at h1
    exact ⟨p, rfl, h1.1, h1.2⟩
theorem set_mem {es : List MapEntry} (h : es.map (fun e => (e.key, e.val)) = D.map (fun p => (pairV p, Value.bool true))) {e : MapEntry} (he : e ∈ es) : ∃ p ∈ D, e.key = pairV p ∧ e.val = .bool true := by
  obtain ⟨j, hj, rfl⟩ := List.getElem_of_mem he
  obtain ⟨p, h1, h2⟩ := set_get h (List.getElem?_eq_getElem hj)
  exact ⟨p, List.mem_of_getElem? h1, h2⟩
theorem set_keys {es : List MapEntry} (h : es.map (fun e => (e.key, e.val)) = D.map (fun p => (pairV p, Value.bool true))) (hD : ∀ p ∈ D, I64 p.1 ∧ I64 p.2) : ∀ e ∈ es, ∃ l, keyOf Try.prog 78 e.key = some l := fun e he => by
  obtain ⟨p, hp, hk, _⟩ := set_mem h he
  rw [hk]
  exact pair_key (hD p hp).1 (hD p hp).2
theorem set_find {es : List MapEntry} (h : es.map (fun e => (e.key, e.val)) = D.map (fun p => (pairV p, Value.bool true))) (hD : ∀ p ∈ D, I64 p.1 ∧ I64 p.2) {a b : Int} (ha : I64 a) (hb : I64 b) :
    ((Instr.findKey 78 (pairV (a, b)) es).run Try.prog w = .ok none w ∧ (a, b) ∉ D) ∨ ∃ j e, (Instr.findKey 78 (pairV (a, b)) es).run Try.prog w = .ok (some (j, .bool true)) w ∧ es[j]? = some e ∧ e.key = pairV (a, b) ∧ D[j]? = some (a, b) := by
  obtain ⟨l, hl⟩ := pair_key ha hb
  rcases pair_law.find w hl es (set_keys h hD) with ⟨h1, h2⟩ | ⟨j, e, h1, h2, h3⟩
  · refine .inl ⟨h1, fun hm => ?_⟩
    obtain ⟨j, hj, hjd⟩ := List.getElem_of_mem hm
    have hlen : es.length = D.length := by simpa using congrArg List.length h
    obtain ⟨p, hp, hk, _⟩ := set_get (D := D) h (List.getElem?_eq_getElem (show j < es.length by omega))
    rw [List.getElem?_eq_getElem hj, hjd] at hp
    cases hp
    exact h2 _ (List.getElem_mem _) hk
  · obtain ⟨p, hp, hk, hv⟩ := set_get h h2
    rw [hv] at h1
    refine .inr ⟨j, e, h1, h2, h3, ?_⟩
    rw [hp, pairV_inj (hk.symm.trans h3)]
theorem zeroBool (w : World) : (zeroValue 4).run Try.prog w = .ok (.bool false) w := by kernel_rfl
theorem run_isdown (h : SetAt w m D) {a b : Int} (ha : I64 a) (hb : I64 b) (c : Value) (hc : c = .agg #[.int .i64 a, .int .i64 b]) :
    (Instr.lookup 70 (.map (some m)) c false).run Try.prog w = .ok (.bool (decide ((a, b) ∈ D))) w := by
  subst hc
  obtain ⟨es, clock, h1, h2, h3, h4⟩ := h
  obtain ⟨l, hl⟩ := pair_key ha hb
  show (Instr.lookup 70 (.map (some m)) (pairV (a, b)) false).run Try.prog w = _
  rcases set_find (w := w) h3 h4 ha hb with ⟨h5, h6⟩ | ⟨j, e, h5, h6, h7, h8⟩
  · simp [Instr.lookup, run_underlying Try.underlying70, Go.MapKept.run_getObj_map h1, pair_law.check w _ hl, h5, Result.andThen, h6]
  · have hm := List.mem_of_getElem? h8
    simp [Instr.lookup, run_underlying Try.underlying70, Go.MapKept.run_getObj_map h1, pair_law.check w _ hl, h5, Result.andThen, hm]
theorem set_split {es : List MapEntry} (h : es.map (fun e => (e.key, e.val)) = D.map (fun p => (pairV p, Value.bool true))) (hn : (es.map (·.key)).Nodup) : D.Nodup := by
  have h1 := congrArg (List.map Prod.fst) h
  simp only [List.map_map, Function.comp_def] at h1
  rw [h1] at hn
  have hn2 : (D.map pairV).Nodup := hn
  exact (List.pairwise_map.1 hn2).imp fun h e => h (congrArg _ e)
theorem erase_filter {α : Type} [DecidableEq α] : ∀ (D : List α) (j : Nat) (x : α), D.Nodup → D[j]? = some x → D.eraseIdx j = D.filter (fun y => decide (y ≠ x))
  | [], j, x, _, h => by simp at h
  | y :: D, 0, x, hn, h => by
    simp only [List.getElem?_cons_zero, Option.some.injEq] at h
    subst h
    have h1 := (List.nodup_cons.1 hn).1
    rw [List.eraseIdx_zero, List.tail_cons, List.filter_cons_of_neg (by simp)]
    symm
    rw [List.filter_eq_self]
    intro z hz
    simp only [ne_eq, decide_eq_true_eq]
    intro e; subst e; exact h1 hz
  | y :: D, j + 1, x, hn, h => by
    simp only [List.getElem?_cons_succ] at h
    have h1 := List.nodup_cons.1 hn
    have hyx : y ≠ x := fun e => by subst e; exact h1.1 (List.mem_of_getElem? h)
    rw [List.eraseIdx_cons_succ, List.filter_cons_of_pos (by simpa using hyx), erase_filter D j x h1.2 h]
/-- 'delete(m, p)' -/
theorem run_del (h : SetAt w m D) {a b : Int} (ha : I64 a) (hb : I64 b) (ty : TypeId) :
    ∃ w', (Builtin.delete_ #[70, 78] ty #[.map (some m), .agg #[.int .i64 a, .int .i64 b]]).run Try.prog w = .ok (.tuple #[]) w' ∧ SetAt w' m (D.filter fun p => decide (p ≠ (a, b))) ∧ Keeps (OneB m) w w' := by
  have h0 := h
  obtain ⟨es, clock, h1, h2, h3, h4⟩ := h
  obtain ⟨l, hl⟩ := pair_key ha hb
  show ∃ w', (Builtin.delete_ #[70, 78] ty #[.map (some m), pairV (a, b)]).run Try.prog w = .ok (.tuple #[]) w' ∧ _
  rcases set_find (w := w) h3 h4 ha hb with ⟨h5, h6⟩ | ⟨j, e, h5, h6, h7, h8⟩
  · refine ⟨setBlock w m (.map es clock), by simp [Builtin.delete_, run_underlying Try.underlying70, Go.MapKept.run_getObj_map h1, pair_law.check w _ hl, h5, Go.MapKept.run_setObj_map _ h1, Result.andThen, setBlock], ?_, ?_⟩
    · refine ⟨es, clock, Go.ChangeMaps.heap_setBlock_same h1 _, h2, ?_, fun p hp => h4 p (List.mem_filter.1 hp).1⟩
      rw [h3, List.filter_eq_self.2]
      intro p hp
      simp only [ne_eq, decide_eq_true_eq]
      intro e; subst e; exact h6 hp
    · exact ⟨rfl, rfl, rfl, by simp [setBlock], fun i _ hi => Go.ChangeMaps.heap_setBlock_other h1 _ hi⟩
  · have hjs : j < es.size := by simpa using (List.getElem?_eq_some_iff.1 h6).1
    have hsub : (es.eraseIdxIfInBounds j).toList = es.toList.eraseIdx j := by
      unfold Array.eraseIdxIfInBounds
      rw [dif_pos hjs]
      simp
    refine ⟨setBlock w m (.map (es.eraseIdxIfInBounds j) clock), by simp [Builtin.delete_, run_underlying Try.underlying70, Go.MapKept.run_getObj_map h1, pair_law.check w _ hl, h5, Go.MapKept.run_setObj_map _ h1, Result.andThen, setBlock], ?_, ?_⟩
    · refine ⟨_, clock, Go.ChangeMaps.heap_setBlock_same h1 _, Go.MapKept.stamped_erase h2 j, ?_, fun p hp => h4 p (List.mem_filter.1 hp).1⟩
      rw [hsub, ← erase_filter D j (a, b) (set_split h3 h2.2.2) h8, map_eraseIdx, map_eraseIdx, h3]
    · exact ⟨rfl, rfl, rfl, by simp [setBlock], fun i _ hi => Go.ChangeMaps.heap_setBlock_other h1 _ hi⟩
/-- 'm[p] = true', p not there -/
theorem run_put (h : SetAt w m D) {a b : Int} (ha : I64 a) (hb : I64 b) (hn : (a, b) ∉ D) :
    ∃ w', (Instr.mapUpdate 70 (.map (some m)) (.agg #[.int .i64 a, .int .i64 b]) (.bool true)).run Try.prog w = .ok () w' ∧ SetAt w' m (D ++ [(a, b)]) ∧ Keeps (OneB m) w w' := by
  obtain ⟨es, clock, h1, h2, h3, h4⟩ := h
  obtain ⟨l, hl⟩ := pair_key ha hb
  show ∃ w', (Instr.mapUpdate 70 (.map (some m)) (pairV (a, b)) (.bool true)).run Try.prog w = .ok () w' ∧ _
  rcases set_find (w := w) h3 h4 ha hb with ⟨h5, h6⟩ | ⟨j, e, h5, h6, h7, h8⟩
  · refine ⟨setBlock w m (.map (es.push ⟨pairV (a, b), .bool true, clock⟩) (clock + 1)), by simp [Instr.mapUpdate, run_underlying Try.underlying70, Go.MapKept.run_getObj_map h1, pair_law.check w _ hl, h5, Go.MapKept.run_setObj_map _ h1, Result.andThen, setBlock], ?_, ?_⟩
    · refine ⟨_, _, Go.ChangeMaps.heap_setBlock_same h1 _, Go.MapKept.stamped_push h2 (fun x hx he => ?_), ?_, ?_⟩
      · obtain ⟨p, hp, hk, _⟩ := set_mem h3 hx
        rw [hk] at he
        exact hn (pairV_inj he ▸ hp)
      · rw [Array.toList_push, List.map_append, h3, List.map_append]; rfl
      · intro p hp
        rcases List.mem_append.1 hp with hp | hp
        · exact h4 p hp
        · obtain rfl := List.mem_singleton.1 hp; exact ⟨ha, hb⟩
    · exact ⟨rfl, rfl, rfl, by simp [setBlock], fun i _ hi => Go.ChangeMaps.heap_setBlock_other h1 _ hi⟩
  · exact absurd (List.mem_of_getElem? h8) hn
end
end Go.Proofs.Ytdiogipdcpiffaa
