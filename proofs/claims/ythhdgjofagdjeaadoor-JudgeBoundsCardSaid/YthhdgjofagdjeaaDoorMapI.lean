/- A map from ints of a kind to values of any type, in the order of its entries: making, store of a new key, look-up. No program's function is named here. -/
import Derived.Test.YthhdgjofagdjeaaDoorRows
import Derived.Test.YthhdgjofagdjeaaDoorBase
import Derived.DeepKeys5
import Derived.Maps.Own
set_option linter.unusedVariables false
set_option linter.unusedSimpArgs false
set_option maxRecDepth 100000
set_option maxHeartbeats 400000
namespace Go.Proofs.YthhdgjofagdjeaaDoor
open Go.RowKit Go.WideMaps Go.ChangeMaps

def I64 (n : Int) : Prop := -9223372036854775808 ≤ n ∧ n ≤ 9223372036854775807
theorem wf_i64 {a : Int} (h : I64 a) : (Lit.int .i64 a).wf = true := by
  unfold I64 at h
  simp [Lit.wf, IntKind.min, IntKind.max, IntKind.signed, IntKind.bits]; omega
theorem i64_lit (n : Int) (h : (decide (-9223372036854775808 ≤ n) && decide (n ≤ 9223372036854775807)) = true) : I64 n := by
  rw [Bool.and_eq_true] at h
  exact ⟨of_decide_eq_true h.1, of_decide_eq_true h.2⟩
/-- the block is a map with these entries, in this order -/
def MapI (w : World) (m : Nat) (D : List (Int × Value)) : Prop :=
  ∃ es clock, w.heap[m]? = some (.map es clock) ∧ Go.MapKept.Stamped es clock ∧ es.toList.map (fun e => (e.key, e.val)) = D.map (fun p => (Value.int .i64 p.1, p.2)) ∧ ∀ p ∈ D, I64 p.1
def lookI (D : List (Int × Value)) (n : Int) (z : Value) : Value × Bool := match D.find? (fun p => p.1 == n) with | some p => (p.2, true) | none => (z, false)
section
variable {P : Program} {w w' : World} {m : Nat} {D : List (Int × Value)} {T K E : TypeId} {n : Int} {v z : Value}
theorem MapI.lt (h : MapI w m D) : m < w.heap.size := let ⟨_, _, h1, _⟩ := h; (Array.getElem?_eq_some_iff.1 h1).1
theorem MapI.keeps {S : Nat → Prop} (h : MapI w m D) (hk : Keeps S w w') (hs : ¬ S m) : MapI w' m D := by
  have hl := h.lt
  obtain ⟨es, c, h1, h2⟩ := h
  exact ⟨es, c, (hk.block m hl hs).trans h1, h2⟩
theorem MapI.ext (h : MapI w m D) (hk : Ext w w') : MapI w' m D := h.keeps hk (noB _)
theorem mapi_new (w : World) : MapI (w.alloc (.map #[] 0)) w.heap.size [] :=
  ⟨#[], 0, World.alloc_heap_new w _, by unfold Go.MapKept.Stamped; simp, rfl, by simp⟩
theorem int_key (hK : P.underlying K = some (.int .i64)) (hn : I64 n) : keyOf P K (.int .i64 n) = some (.int .i64 n) := Go.Maps.keyOf_int_mk hK (wf_i64 hn)
theorem mapi_get {es : List MapEntry} {j : Nat} {e : MapEntry} (h : es.map (fun e => (e.key, e.val)) = D.map (fun p => (Value.int .i64 p.1, p.2))) (he : es[j]? = some e) : ∃ p, D[j]? = some p ∧ e.key = .int .i64 p.1 ∧ e.val = p.2 := by
  have h1 := congrArg (·[j]?) h
  simp only [List.getElem?_map, he, Option.map_some] at h1
  cases hd : D[j]? with
  | none => rw [hd] at h1; simp at h1
  | some p =>
    rw [hd] at h1
    simp at h1
    exact ⟨p, rfl, h1.1, h1.2⟩
theorem mapi_mem {es : List MapEntry} (h : es.map (fun e => (e.key, e.val)) = D.map (fun p => (Value.int .i64 p.1, p.2))) {e : MapEntry} (he : e ∈ es) : ∃ p ∈ D, e.key = .int .i64 p.1 ∧ e.val = p.2 := by
  obtain ⟨j, hj, rfl⟩ := List.getElem_of_mem he
  obtain ⟨p, h1, h2⟩ := mapi_get h (List.getElem?_eq_getElem hj)
  exact ⟨p, List.mem_of_getElem? h1, h2⟩
theorem mapi_find (hK : P.underlying K = some (.int .i64)) {es : List MapEntry} (h : es.map (fun e => (e.key, e.val)) = D.map (fun p => (Value.int .i64 p.1, p.2))) (hD : ∀ p ∈ D, I64 p.1) (hn : I64 n) :
    ((Instr.findKey K (.int .i64 n) es).run P w = .ok none w ∧ ∀ p ∈ D, p.1 ≠ n) ∨ ∃ j p, (Instr.findKey K (.int .i64 n) es).run P w = .ok (some (j, p.2)) w ∧ D[j]? = some p ∧ p.1 = n := by
  have hl := int_key hK hn
  have hkeys : ∀ e ∈ es, ∃ l, keyOf P K e.key = some l := fun e he => by
    obtain ⟨p, hp, hk, _⟩ := mapi_mem h he
    rw [hk]
    exact ⟨_, int_key hK (hD p hp)⟩
  rcases (Go.Maps.int_keyed hK).find w hl es hkeys with ⟨h1, h2⟩ | ⟨j, e, h1, h2, h3⟩
  · refine .inl ⟨h1, fun p hm hp => ?_⟩
    obtain ⟨j, hj, hjd⟩ := List.getElem_of_mem hm
    have hlen : es.length = D.length := by simpa using congrArg List.length h
    obtain ⟨q, hq, hk, _⟩ := mapi_get (D := D) h (List.getElem?_eq_getElem (show j < es.length by omega))
    rw [List.getElem?_eq_getElem hj, hjd] at hq
    cases hq
    exact h2 _ (List.getElem_mem _) (by rw [hk, hp])
  · obtain ⟨p, hp, hk, hv⟩ := mapi_get h h2
    rw [hv] at h1
    refine .inr ⟨j, p, h1, hp, ?_⟩
    rw [h3] at hk
    simpa using hk.symm
/-- a store at a new key -/
theorem MapI.put (h : MapI w m D) (hT : P.underlying T = some (.map K E)) (hK : P.underlying K = some (.int .i64)) (hn : I64 n) (hne : ∀ p ∈ D, p.1 ≠ n) (v : Value) :
    ∃ w', (Instr.mapUpdate T (.map (some m)) (.int .i64 n) v).run P w = .ok () w' ∧ MapI w' m (D ++ [(n, v)]) ∧ Keeps (OneB m) w w' := by
  obtain ⟨es, clock, h1, h2, h3, h4⟩ := h
  have hl := int_key hK hn
  rcases mapi_find (w := w) hK h3 h4 hn with ⟨h5, h6⟩ | ⟨j, p, h5, h6, h7⟩
  · refine ⟨setBlock w m (.map (es.push ⟨.int .i64 n, v, clock⟩) (clock + 1)), by simp [Instr.mapUpdate, run_underlying hT, Go.MapKept.run_getObj_map h1, (Go.Maps.int_keyed hK).check w _ hl, h5, Go.MapKept.run_setObj_map _ h1, Result.andThen, setBlock], ?_, ?_⟩
    · refine ⟨_, _, Go.ChangeMaps.heap_setBlock_same h1 _, Go.MapKept.stamped_push h2 (fun x hx he => ?_), ?_, ?_⟩
      · obtain ⟨p, hp, hk, _⟩ := mapi_mem h3 hx
        rw [hk] at he
        exact hne p hp (by simpa using he)
      · rw [Array.toList_push, List.map_append, h3, List.map_append]; rfl
      · intro p hp
        rcases List.mem_append.1 hp with hp | hp
        · exact h4 p hp
        · obtain rfl := List.mem_singleton.1 hp; exact hn
    · exact ⟨rfl, rfl, rfl, by simp [setBlock], fun i _ hi => Go.ChangeMaps.heap_setBlock_other h1 _ hi⟩
  · exact absurd h7 (hne p (List.mem_of_getElem? h6))
/-- a look-up, by the entries that do (each key stands once) -/
theorem MapI.look (h : MapI w m D) (hT : P.underlying T = some (.map K E)) (hK : P.underlying K = some (.int .i64)) (hz : ∀ w, (zeroValue E).run P w = .ok z w) (hn : I64 n) (hD : D.Pairwise (fun p q => p.1 ≠ q.1)) (ok : Bool) :
    (Instr.lookup T (.map (some m)) (.int .i64 n) ok).run P w = .ok (if ok then .tuple #[(lookI D n z).1, .bool (lookI D n z).2] else (lookI D n z).1) w := by
  obtain ⟨es, clock, h1, h2, h3, h4⟩ := h
  have hl := int_key hK hn
  rcases mapi_find (w := w) hK h3 h4 hn with ⟨h5, h6⟩ | ⟨j, p, h5, h6, h7⟩
  · have hf : lookI D n z = (z, false) := by
      unfold lookI
      rw [List.find?_eq_none.2 fun p hp => by simpa using h6 p hp]
    rw [hf]
    cases ok <;> simp [Instr.lookup, run_underlying hT, Go.MapKept.run_getObj_map h1, (Go.Maps.int_keyed hK).check w _ hl, h5, hz, Result.andThen]
  · have hm := List.mem_of_getElem? h6
    have hf : lookI D n z = (p.2, true) := by
      unfold lookI
      have : D.find? (fun p => p.1 == n) = some p := by
        rw [List.find?_eq_some_iff_getElem]
        obtain ⟨hj, hje⟩ := List.getElem?_eq_some_iff.1 h6
        refine ⟨by simpa using h7, j, hj, hje, fun k hk => ?_⟩
        have := List.pairwise_iff_getElem.1 hD k j (by omega) hj hk
        rw [hje, h7] at this
        simpa using this
      rw [this]
    rw [hf]
    cases ok <;> simp [Instr.lookup, run_underlying hT, Go.MapKept.run_getObj_map h1, (Go.Maps.int_keyed hK).check w _ hl, h5, hz, Result.andThen]
end
end Go.Proofs.YthhdgjofagdjeaaDoor
