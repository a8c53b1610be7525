/- Texts MapI, JC, Said, TakeLay, DocParse, one behind the other. Conditions: as each says. -/
import Derived.Test.YtoadjbgpfihoiaaGreatDoorPlO
import Derived.DeepKeys5
import Derived.Maps.Own
set_option linter.unusedVariables false
set_option linter.unusedSimpArgs false
set_option maxHeartbeats 8000000
set_option maxRecDepth 100000
namespace Go.Proofs.YtoadjbgpfihoiaaGreatDoor
open Go.RowKit
section
open Go.RowKit Go.WideMaps Go.ChangeMaps
def I64 (n : Int) : Prop := -9223372036854775808 ≤ n ∧ n ≤ 9223372036854775807
theorem wf_i64 {a : Int} (h : I64 a) : (Lit.int .i64 a).wf = true := by
 unfold I64 at h; simp [Lit.wf, IntKind.min, IntKind.max, IntKind.signed, IntKind.bits]; omega
theorem i64_lit (n : Int) (h : (decide (-9223372036854775808 ≤ n) && decide (n ≤ 9223372036854775807)) = true) : I64 n := by
 rw [Bool.and_eq_true] at h; exact ⟨of_decide_eq_true h.1, of_decide_eq_true h.2⟩
def MapI (w : World) (m : Nat) (D : List (Int × Value)) : Prop :=
 ∃ es clock, w.heap[m]? = some (.map es clock) ∧ Go.MapKept.Stamped es clock ∧ es.toList.map (fun e => (e.key, e.val)) = D.map (fun p => (Value.int .i64 p.1, p.2)) ∧ ∀ p ∈ D, I64 p.1
def lookI (D : List (Int × Value)) (n : Int) (z : Value) : Value × Bool := match D.find? (fun p => p.1 == n) with | some p => (p.2, true) | none => (z, false)
section
variable {P : Program} {w w' : World} {m : Nat} {D : List (Int × Value)} {T K E : TypeId} {n : Int} {v z : Value}
theorem MapI.lt (h : MapI w m D) : m < w.heap.size := let ⟨_, _, h1, _⟩ := h; (Array.getElem?_eq_some_iff.1 h1).1
theorem MapI.keeps {S : Nat → Prop} (h : MapI w m D) (hk : Keeps S w w') (hs : ¬ S m) : MapI w' m D := by
 have hl := h.lt; obtain ⟨es, c, h1, h2⟩ := h; exact ⟨es, c, (hk.block m hl hs).trans h1, h2⟩
theorem MapI.ext (h : MapI w m D) (hk : Ext w w') : MapI w' m D := h.keeps hk (noB _)
theorem mapi_new (w : World) : MapI (w.alloc (.map #[] 0)) w.heap.size [] :=
 ⟨#[], 0, World.alloc_heap_new w _, by unfold Go.MapKept.Stamped; simp, rfl, by simp⟩
theorem int_key (hK : P.underlying K = some (.int .i64)) (hn : I64 n) : keyOf P K (.int .i64 n) = some (.int .i64 n) := Go.Maps.keyOf_int_mk hK (wf_i64 hn)
theorem mapi_get {es : List MapEntry} {j : Nat} {e : MapEntry} (h : es.map (fun e => (e.key, e.val)) = D.map (fun p => (Value.int .i64 p.1, p.2))) (he : es[j]? = some e) : ∃ p, D[j]? = some p ∧ e.key = .int .i64 p.1 ∧ e.val = p.2 := by
 have h1 := congrArg (·[j]?) h; simp only [List.getElem?_map, he, Option.map_some] at h1; cases hd : D[j]? with
 | none => rw [hd] at h1; simp at h1
 | some p =>
   rw [hd] at h1; simp at h1; exact ⟨p, rfl, h1.1, h1.2⟩
theorem mapi_mem {es : List MapEntry} (h : es.map (fun e => (e.key, e.val)) = D.map (fun p => (Value.int .i64 p.1, p.2))) {e : MapEntry} (he : e ∈ es) : ∃ p ∈ D, e.key = .int .i64 p.1 ∧ e.val = p.2 := by
 obtain ⟨j, hj, rfl⟩ := List.getElem_of_mem he; obtain ⟨p, h1, h2⟩ := mapi_get h (List.getElem?_eq_getElem hj); exact ⟨p, List.mem_of_getElem? h1, h2⟩
theorem mapi_find (hK : P.underlying K = some (.int .i64)) {es : List MapEntry} (h : es.map (fun e => (e.key, e.val)) = D.map (fun p => (Value.int .i64 p.1, p.2))) (hD : ∀ p ∈ D, I64 p.1) (hn : I64 n) :
 ((Instr.findKey K (.int .i64 n) es).run P w = .ok none w ∧ ∀ p ∈ D, p.1 ≠ n) ∨ ∃ j p, (Instr.findKey K (.int .i64 n) es).run P w = .ok (some (j, p.2)) w ∧ D[j]? = some p ∧ p.1 = n := by
 have hl := int_key hK hn
 have hkeys : ∀ e ∈ es, ∃ l, keyOf P K e.key = some l := fun e he => by
  obtain ⟨p, hp, hk, _⟩ := mapi_mem h he; rw [hk]; exact ⟨_, int_key hK (hD p hp)⟩
 rcases (Go.Maps.int_keyed hK).find w hl es hkeys with ⟨h1, h2⟩ | ⟨j, e, h1, h2, h3⟩
 · refine .inl ⟨h1, fun p hm hp => ?_⟩
   obtain ⟨j, hj, hjd⟩ := List.getElem_of_mem hm; have hlen : es.length = D.length := by simpa using congrArg List.length h
   obtain ⟨q, hq, hk, _⟩ := mapi_get (D := D) h (List.getElem?_eq_getElem (show j < es.length by omega)); rw [List.getElem?_eq_getElem hj, hjd] at hq; cases hq
   exact h2 _ (List.getElem_mem _) (by rw [hk, hp])
 · obtain ⟨p, hp, hk, hv⟩ := mapi_get h h2
   rw [hv] at h1; refine .inr ⟨j, p, h1, hp, ?_⟩; rw [h3] at hk; simpa using hk.symm
theorem MapI.put (h : MapI w m D) (hT : P.underlying T = some (.map K E)) (hK : P.underlying K = some (.int .i64)) (hn : I64 n) (hne : ∀ p ∈ D, p.1 ≠ n) (v : Value) :
 ∃ w', (Instr.mapUpdate T (.map (some m)) (.int .i64 n) v).run P w = .ok () w' ∧ MapI w' m (D ++ [(n, v)]) ∧ Keeps (OneB m) w w' := by
 obtain ⟨es, clock, h1, h2, h3, h4⟩ := h; have hl := int_key hK hn; rcases mapi_find (w := w) hK h3 h4 hn with ⟨h5, h6⟩ | ⟨j, p, h5, h6, h7⟩
 · refine ⟨setBlock w m (.map (es.push ⟨.int .i64 n, v, clock⟩) (clock + 1)), by simp [Instr.mapUpdate, run_underlying hT, Go.MapKept.run_getObj_map h1, (Go.Maps.int_keyed hK).check w _ hl, h5, Go.MapKept.run_setObj_map _ h1, Result.andThen, setBlock], ?_, ?_⟩
   · refine ⟨_, _, Go.ChangeMaps.heap_setBlock_same h1 _, Go.MapKept.stamped_push h2 (fun x hx he => ?_), ?_, ?_⟩
     · obtain ⟨p, hp, hk, _⟩ := mapi_mem h3 hx
       rw [hk] at he; exact hne p hp (by simpa using he)
     · rw [Array.toList_push, List.map_append, h3, List.map_append]; rfl
     · intro p hp
       rcases List.mem_append.1 hp with hp | hp
       · exact h4 p hp
       · obtain rfl := List.mem_singleton.1 hp; exact hn
   · exact ⟨rfl, rfl, rfl, by simp [setBlock], fun i _ hi => Go.ChangeMaps.heap_setBlock_other h1 _ hi⟩
 · exact absurd h7 (hne p (List.mem_of_getElem? h6))
theorem MapI.look (h : MapI w m D) (hT : P.underlying T = some (.map K E)) (hK : P.underlying K = some (.int .i64)) (hz : ∀ w, (zeroValue E).run P w = .ok z w) (hn : I64 n) (hD : D.Pairwise (fun p q => p.1 ≠ q.1)) (ok : Bool) :
 (Instr.lookup T (.map (some m)) (.int .i64 n) ok).run P w = .ok (if ok then .tuple #[(lookI D n z).1, .bool (lookI D n z).2] else (lookI D n z).1) w := by
 obtain ⟨es, clock, h1, h2, h3, h4⟩ := h; have hl := int_key hK hn; rcases mapi_find (w := w) hK h3 h4 hn with ⟨h5, h6⟩ | ⟨j, p, h5, h6, h7⟩
 · have hf : lookI D n z = (z, false) := by
    unfold lookI; rw [List.find?_eq_none.2 fun p hp => by simpa using h6 p hp]
   rw [hf]; cases ok <;> simp [Instr.lookup, run_underlying hT, Go.MapKept.run_getObj_map h1, (Go.Maps.int_keyed hK).check w _ hl, h5, hz, Result.andThen]
 · have hm := List.mem_of_getElem? h6
   have hf : lookI D n z = (p.2, true) := by
    unfold lookI
    have : D.find? (fun p => p.1 == n) = some p := by
     rw [List.find?_eq_some_iff_getElem]; obtain ⟨hj, hje⟩ := List.getElem?_eq_some_iff.1 h6; refine ⟨by simpa using h7, j, hj, hje, fun k hk => ?_⟩; have := List.pairwise_iff_getElem.1 hD k j (by omega) hj hk; rw [hje, h7] at this; simpa using this
    rw [this]
   rw [hf]; cases ok <;> simp [Instr.lookup, run_underlying hT, Go.MapKept.run_getObj_map h1, (Go.Maps.int_keyed hK).check w _ hl, h5, hz, Result.andThen]
end
end
structure En where
 kind : Int
 member : Int
 number : Int
 text : List UInt8
deriving DecidableEq
def En.cells (e : En) : List Value := [.int .i64 e.kind, .int .i64 e.member, .int .i64 e.number, .string (bs e.text)]
def En.v (e : En) : Value := .agg #[.int .i64 e.kind, .int .i64 e.member, .int .i64 e.number, .string (bs e.text)]
def memB (m : Int) : Bool := decide (0 ≤ m) && decide (m < 16)
def aloneB (e : En) : Bool := decide (e = ⟨e.kind, e.member, 0, []⟩)
theorem alone_cases (e : En) : (e.number = 0 ∧ (bs e.text).toList = [] ∧ aloneB e = true) ∨ (e.number = 0 ∧ ¬ (bs e.text).toList = [] ∧ aloneB e = false) ∨ (¬ e.number = 0 ∧ aloneB e = false) := by
 obtain ⟨k, m, n, t⟩ := e; rw [bs_toList]; unfold aloneB; by_cases hn : n = 0
 · by_cases ht : t = []
   · exact .inl ⟨hn, ht, by subst hn ht; simp⟩
   · exact .inr (.inl ⟨hn, ht, by simp [ht]⟩)
 · exact .inr (.inr ⟨hn, by simp [hn]⟩)
theorem acc_all2 (w : World) (b : Nat) (x y : Bool) (hb : Box w b 4 [.bool x, .bool y]) : Calls Tryz.prog 288 #[.slice (some ⟨b, 0, none⟩) 2 2] w fun e w' => e = .returned (.bool (x && y)) ∧ w' = w := by
 have HB := Hd hb; clear hb; cases x
 · go_enter Tryz.func288, Tryz.ntmps288
   obtain ⟨cHB, zHB⟩ := HB.out.reads; have lHB := HB.out.lt; go_wp2_with fail; refine wp_loop_rounds 3 ?_; rw [rounds_succ]; go_wp2_with fail; go_ret; exact ⟨rfl, rfl⟩
 · cases y
   · go_enter Tryz.func288, Tryz.ntmps288
     obtain ⟨cHB, zHB⟩ := HB.out.reads; have lHB := HB.out.lt; go_wp2_with fail; refine wp_loop_rounds 4 ?_; rw [rounds_succ]; go_wp2_with fail; rw [rounds_succ]; go_wp2_with fail; go_ret; exact ⟨rfl, rfl⟩
   · go_enter Tryz.func288, Tryz.ntmps288
     obtain ⟨cHB, zHB⟩ := HB.out.reads; have lHB := HB.out.lt; go_wp2_with fail; refine wp_loop_rounds 4 ?_; rw [rounds_succ]; go_wp2_with fail; rw [rounds_succ]; go_wp2_with fail; rw [rounds_succ]; go_wp2_with fail; go_ret; exact ⟨rfl, rfl⟩
theorem right1_any (w : World) (k : Nat) (m : Bool) (e : En) (hk : Box w k 4 [.bool m]) :
 Calls Tryz.prog 287 #[e.v, .pointer (some ⟨k, 0, none⟩)] w fun r w' => r = .returned (.bool (m && aloneB e)) ∧ Ext w w' := by
 have HB := Hd hk; clear hk; unfold En.v; rcases alone_cases e with ⟨h1, h2, h3⟩ | ⟨h1, h2, h3⟩ | ⟨h1, h3⟩
 · rw [h3]
   clear h3; have HH := Hd (And.intro h1 h2); clear h1 h2; go_enter Tryz.func287, Tryz.ntmps287
   obtain ⟨cHB, zHB⟩ := HB.out.reads; have lHB := HB.out.lt; go_wp2_with fail; have bx0 := (Box.new w 35 [.int .i64 e.kind, .int .i64 e.member, .int .i64 e.number, .string (bs e.text)]); have ex : Ext w (w.alloc (Obj.cells #[.int .i64 e.kind, .int .i64 e.member, .int .i64 e.number, .string (bs e.text)] 35)) := ((Keeps.refl NoB w).alloc _); have sx : (w.alloc (Obj.cells #[.int .i64 e.kind, .int .i64 e.member, .int .i64 e.number, .string (bs e.text)] 35)).heap.size = w.heap.size + 1 := by simp
   generalize (w.alloc (Obj.cells #[.int .i64 e.kind, .int .i64 e.member, .int .i64 e.number, .string (bs e.text)] 35)) = w0 at bx0 ex sx ⊢
   have Sx := Hd sx; clear sx; have BX := Hd bx0; clear cHB zHB lHB; replace HB := Hd (HB.out.ext ex); have HE := Hd ex; clear bx0 ex; obtain ⟨cHB, zHB⟩ := HB.out.reads; have lHB := HB.out.lt; obtain ⟨cBX, zBX⟩ := BX.out.reads; have lBX := BX.out.lt; obtain ⟨h1, h2⟩ := HH.out; have hE0 : Keeps NoB w0 w0.drew := (Keeps.refl _ _).drew; refine rgE [(3, 0), (3, 1), (0, 2), (3, 3), (0, 4), (3, 5), (0, 6), (0, 7)] [] [8, 9, 10] [8, 9, 10] ?_; simp only [planL, nL]; iterate 8 (first | (refine pR (by rfl) (fun W => by go_simp <;> with_reducible rfl) ?_; simp only [nP]) | (refine pX (by rfl) (by go_simp <;> with_reducible rfl) ?_; simp only [nP]))
   refine plan_nil ?_; simp only [tailL, List.filterMap_cons, List.filterMap_nil, nL]; change wpList _ _ _ (_ :: _ :: _ :: []) _ _; clear cHB zHB lHB cBX zBX lBX; clear h1 h2; go_wp2_with fail; have by0 := (Box.new w0 4 [.bool m, .bool true]); have ey : Ext w0 (w0.alloc (Obj.cells #[.bool m, .bool true] 4)) := ((Keeps.refl NoB w0).alloc _); have sy : (w0.alloc (Obj.cells #[.bool m, .bool true] 4)).heap.size = w0.heap.size + 1 := by simp
   generalize (w0.alloc (Obj.cells #[.bool m, .bool true] 4)) = w1 at by0 ey sy ⊢
   have Sy := Hd sy; clear sy; have HE1 := Hd ((HE.out.ext ey).drew); refine (acc_all2 w1.drew _ m true by0.drew).mono ?_; rintro e' w2 ⟨rfl, rfl⟩; clear ey by0 hE0; go_wp2_with fail; go_ret; exact ⟨by simp, HE1.out⟩
 · rw [h3]
   clear h3; have HH := Hd (And.intro h1 h2); clear h1 h2; go_enter Tryz.func287, Tryz.ntmps287
   obtain ⟨cHB, zHB⟩ := HB.out.reads; have lHB := HB.out.lt; go_wp2_with fail; have bx0 := (Box.new w 35 [.int .i64 e.kind, .int .i64 e.member, .int .i64 e.number, .string (bs e.text)]); have ex : Ext w (w.alloc (Obj.cells #[.int .i64 e.kind, .int .i64 e.member, .int .i64 e.number, .string (bs e.text)] 35)) := ((Keeps.refl NoB w).alloc _); have sx : (w.alloc (Obj.cells #[.int .i64 e.kind, .int .i64 e.member, .int .i64 e.number, .string (bs e.text)] 35)).heap.size = w.heap.size + 1 := by simp
   generalize (w.alloc (Obj.cells #[.int .i64 e.kind, .int .i64 e.member, .int .i64 e.number, .string (bs e.text)] 35)) = w0 at bx0 ex sx ⊢
   have Sx := Hd sx; clear sx; have BX := Hd bx0; clear cHB zHB lHB; replace HB := Hd (HB.out.ext ex); have HE := Hd ex; clear bx0 ex; obtain ⟨cHB, zHB⟩ := HB.out.reads; have lHB := HB.out.lt; obtain ⟨cBX, zBX⟩ := BX.out.reads; have lBX := BX.out.lt; obtain ⟨h1, h2⟩ := HH.out; have hE0 : Keeps NoB w0 w0.drew := (Keeps.refl _ _).drew; refine rgE [(3, 0), (3, 1), (0, 2), (3, 3), (0, 4), (3, 5), (0, 6), (0, 7)] [] [8, 9, 10] [8, 9, 10] ?_; simp only [planL, nL]; iterate 8 (first | (refine pR (by rfl) (fun W => by go_simp <;> with_reducible rfl) ?_; simp only [nP]) | (refine pX (by rfl) (by go_simp <;> with_reducible rfl) ?_; simp only [nP]))
   refine plan_nil ?_; simp only [tailL, List.filterMap_cons, List.filterMap_nil, nL]; change wpList _ _ _ (_ :: _ :: _ :: []) _ _; clear cHB zHB lHB cBX zBX lBX; clear h1 h2; go_wp2_with fail; have by0 := (Box.new w0 4 [.bool m, .bool false]); have ey : Ext w0 (w0.alloc (Obj.cells #[.bool m, .bool false] 4)) := ((Keeps.refl NoB w0).alloc _); have sy : (w0.alloc (Obj.cells #[.bool m, .bool false] 4)).heap.size = w0.heap.size + 1 := by simp
   generalize (w0.alloc (Obj.cells #[.bool m, .bool false] 4)) = w1 at by0 ey sy ⊢
   have Sy := Hd sy; clear sy; have HE1 := Hd ((HE.out.ext ey).drew); refine (acc_all2 w1.drew _ m false by0.drew).mono ?_; rintro e' w2 ⟨rfl, rfl⟩; clear ey by0 hE0; go_wp2_with fail; go_ret; exact ⟨by simp, HE1.out⟩
 · rw [h3]
   clear h3; have HH := Hd (And.intro h1 trivial); clear h1; go_enter Tryz.func287, Tryz.ntmps287
   obtain ⟨cHB, zHB⟩ := HB.out.reads; have lHB := HB.out.lt; go_wp2_with fail; have bx0 := (Box.new w 35 [.int .i64 e.kind, .int .i64 e.member, .int .i64 e.number, .string (bs e.text)]); have ex : Ext w (w.alloc (Obj.cells #[.int .i64 e.kind, .int .i64 e.member, .int .i64 e.number, .string (bs e.text)] 35)) := ((Keeps.refl NoB w).alloc _); have sx : (w.alloc (Obj.cells #[.int .i64 e.kind, .int .i64 e.member, .int .i64 e.number, .string (bs e.text)] 35)).heap.size = w.heap.size + 1 := by simp
   generalize (w.alloc (Obj.cells #[.int .i64 e.kind, .int .i64 e.member, .int .i64 e.number, .string (bs e.text)] 35)) = w0 at bx0 ex sx ⊢
   have Sx := Hd sx; clear sx; have BX := Hd bx0; clear cHB zHB lHB; replace HB := Hd (HB.out.ext ex); have HE := Hd ex; clear bx0 ex; obtain ⟨cHB, zHB⟩ := HB.out.reads; have lHB := HB.out.lt; obtain ⟨cBX, zBX⟩ := BX.out.reads; have lBX := BX.out.lt; obtain ⟨h1, -⟩ := HH.out; have hE0 : Keeps NoB w0 w0.drew := (Keeps.refl _ _).drew; refine rgE [(3, 0), (3, 1), (0, 2), (3, 3), (0, 4), (3, 5), (0, 6), (0, 7)] [] [8, 9, 10] [8, 9, 10] ?_; simp only [planL, nL]; iterate 8 (first | (refine pR (by rfl) (fun W => by go_simp <;> with_reducible rfl) ?_; simp only [nP]) | (refine pX (by rfl) (by go_simp <;> with_reducible rfl) ?_; simp only [nP]))
   refine plan_nil ?_; simp only [tailL, List.filterMap_cons, List.filterMap_nil, nL]; change wpList _ _ _ (_ :: _ :: _ :: []) _ _; clear cHB zHB lHB cBX zBX lBX; clear h1; go_wp2_with fail; have by0 := (Box.new w0 4 [.bool m, .bool false]); have ey : Ext w0 (w0.alloc (Obj.cells #[.bool m, .bool false] 4)) := ((Keeps.refl NoB w0).alloc _); have sy : (w0.alloc (Obj.cells #[.bool m, .bool false] 4)).heap.size = w0.heap.size + 1 := by simp
   generalize (w0.alloc (Obj.cells #[.bool m, .bool false] 4)) = w1 at by0 ey sy ⊢
   have Sy := Hd sy; clear sy; have HE1 := Hd ((HE.out.ext ey).drew); refine (acc_all2 w1.drew _ m false by0.drew).mono ?_; rintro e' w2 ⟨rfl, rfl⟩; clear ey by0 hE0; go_wp2_with fail; go_ret; exact ⟨by simp, HE1.out⟩
theorem acc_all4 (w : World) (b : Nat) (x y z u : Bool) (hb : Box w b 4 [.bool x, .bool y, .bool z, .bool u]) : Calls Tryz.prog 288 #[.slice (some ⟨b, 0, none⟩) 4 4] w fun e w' => e = .returned (.bool (x && y && z && u)) ∧ w' = w := by
 have HB := Hd hb; clear hb; go_enter Tryz.func288, Tryz.ntmps288
 obtain ⟨cHB, zHB⟩ := HB.out.reads; have lHB := HB.out.lt; go_wp2_with fail; refine wp_loop_rounds 6 ?_; rw [rounds_succ]; cases x
 · go_wp2_with fail
   go_ret; exact ⟨by simp, rfl⟩
 go_wp2_with fail; rw [rounds_succ]; cases y
 · go_wp2_with fail
   go_ret; exact ⟨by simp, rfl⟩
 go_wp2_with fail; rw [rounds_succ]; cases z
 · go_wp2_with fail
   go_ret; exact ⟨by simp, rfl⟩
 go_wp2_with fail; rw [rounds_succ]; cases u
 · go_wp2_with fail
   go_ret; exact ⟨by simp, rfl⟩
 go_wp2_with fail; rw [rounds_succ]; go_wp2_with fail; go_ret; exact ⟨by simp, rfl⟩
def noneB (e : En) : Bool := decide (e = ⟨e.kind, 0, 0, []⟩)
theorem none_cases (e : En) : (e.member = 0 ∧ e.number = 0 ∧ (bs e.text).toList = [] ∧ noneB e = true) ∨ (e.member = 0 ∧ e.number = 0 ∧ ¬ (bs e.text).toList = [] ∧ noneB e = false) ∨ (e.member = 0 ∧ ¬ e.number = 0 ∧ noneB e = false) ∨ (¬ e.member = 0 ∧ noneB e = false) := by
 obtain ⟨k, m, n, t⟩ := e; rw [bs_toList]; unfold noneB; by_cases hm : m = 0
 · by_cases hn : n = 0
   · by_cases ht : t = []
     · exact .inl ⟨hm, hn, ht, by subst hm hn ht; simp⟩
     · exact .inr (.inl ⟨hm, hn, ht, by simp [ht]⟩)
   · exact .inr (.inr (.inl ⟨hm, hn, by simp [hn]⟩))
 · exact .inr (.inr (.inr ⟨hm, by simp [hm]⟩))
theorem right2_any (w : World) (e : En) :
 Calls Tryz.prog 289 #[e.v] w fun r w' => r = .returned (.bool (noneB e)) ∧ Ext w w' := by
 unfold En.v; go_enter Tryz.func289, Tryz.ntmps289
 go_wp2_with fail
 all_goals
  go_ret; refine ⟨?_, (Keeps.refl _ _).alloc _⟩; rcases none_cases e with ⟨h1, h2, h3, h4⟩ | ⟨h1, h2, h3, h4⟩ | ⟨h1, h2, h4⟩ | ⟨h1, h4⟩ <;> rw [h4] <;> first | rfl | (exfalso; simp_all)
def sayB (m : Bool) (e : En) : Bool := m && decide (1 ≤ e.number) && decide (e.number ≤ 2147483647) && (chk e.text == 0)
theorem right3_any (w : World) (k : Nat) (m : Bool) (e : En) (hk : Box w k 4 [.bool m])
 (hC : ∀ w1, Ext w w1 → Calls Tryz.prog 54 #[.string (bs e.text)] w1 fun r w' => r = .returned (.int .i64 (chk e.text : Int)) ∧ Ext w1 w') :
 Calls Tryz.prog 290 #[e.v, .pointer (some ⟨k, 0, none⟩)] w fun r w' => r = .returned (.bool (sayB m e)) ∧ Ext w w' := by
 have HB := Hd hk; have HC := Hd hC; clear hk hC; unfold En.v; go_enter Tryz.func290, Tryz.ntmps290
 obtain ⟨cHB, zHB⟩ := HB.out.reads; have lHB := HB.out.lt; go_wp2_with fail; have bx0 := (Box.new w 35 [.int .i64 e.kind, .int .i64 e.member, .int .i64 e.number, .string (bs e.text)]); have ex : Ext w (w.alloc (Obj.cells #[.int .i64 e.kind, .int .i64 e.member, .int .i64 e.number, .string (bs e.text)] 35)) := ((Keeps.refl NoB w).alloc _); have sx : (w.alloc (Obj.cells #[.int .i64 e.kind, .int .i64 e.member, .int .i64 e.number, .string (bs e.text)] 35)).heap.size = w.heap.size + 1 := by simp
 generalize (w.alloc (Obj.cells #[.int .i64 e.kind, .int .i64 e.member, .int .i64 e.number, .string (bs e.text)] 35)) = w0 at bx0 ex sx ⊢
 have Sx := Hd sx; clear sx; have BX := Hd bx0; clear cHB zHB lHB; replace HB := Hd (HB.out.ext ex); have HE := Hd ex; clear bx0 ex; obtain ⟨cHB, zHB⟩ := HB.out.reads; have lHB := HB.out.lt; obtain ⟨cBX, zBX⟩ := BX.out.reads; have lBX := BX.out.lt; have hE0 : Keeps NoB w0 w0.drew := (Keeps.refl _ _).drew; refine rgE [(1, 0), (0, 1), (1, 2), (0, 3), (0, 4), (1, 5), (0, 6), (0, 7), (3, 8), (2, 9), (0, 10)] [0, 2, 5] [9, 11, 12, 13] [11, 12, 13] ?_; simp only [planL, nL]; iterate 9 (first | (refine pR (by rfl) (fun W => by go_simp <;> with_reducible rfl) ?_; simp only [nP]) | (refine pX (by rfl) (by go_simp <;> with_reducible rfl) ?_; simp only [nP]) | (refine pL (by rfl) (fun W => by go_simp <;> with_reducible rfl) ?_; simp only [nP]))
 refine plan_does rfl (fun K hK => ?_); go_wp2_with fail; refine (HC.out _ (HE.out.ext hE0)).mono ?_; rintro r w2 ⟨rfl, hE2⟩; have hE02 := hE0.ext hE2; refine hK _ _ ⟨ClsE.of (by assumption), ?_⟩; clear hK K; try simp only [nP]
 refine pR rfl (fun W => by go_simp <;> with_reducible rfl) ?_; simp only [nP]; refine plan_nil ?_; simp only [tailL, List.filterMap_cons, List.filterMap_nil, nL]; change wpList _ _ _ (_ :: _ :: _ :: []) _ _; clear cHB zHB lHB cBX zBX lBX; go_wp2_with fail; have by0 := (Box.new w2 4 [.bool m, .bool (decide (1 ≤ e.number)), .bool (decide (e.number ≤ 2147483647)), .bool ((chk e.text : Int) == 0)]); have ey : Ext w2 (w2.alloc (Obj.cells #[.bool m, .bool (decide (1 ≤ e.number)), .bool (decide (e.number ≤ 2147483647)), .bool ((chk e.text : Int) == 0)] 4)) := ((Keeps.refl NoB w2).alloc _); have sy : (w2.alloc (Obj.cells #[.bool m, .bool (decide (1 ≤ e.number)), .bool (decide (e.number ≤ 2147483647)), .bool ((chk e.text : Int) == 0)] 4)).heap.size = w2.heap.size + 1 := by simp
 generalize (w2.alloc (Obj.cells #[.bool m, .bool (decide (1 ≤ e.number)), .bool (decide (e.number ≤ 2147483647)), .bool ((chk e.text : Int) == 0)] 4)) = w3 at by0 ey sy ⊢
 have Sy := Hd sy; clear sy; have HE3 := Hd ((HE.out.ext hE02).ext ey); refine (acc_all4 w3 _ _ _ _ _ by0).mono ?_; rintro e' w4 ⟨rfl, rfl⟩; clear ey by0 hE0 hE02 hE2
 have hs : (m && decide (1 ≤ e.number) && decide (e.number ≤ 2147483647) && ((chk e.text : Int) == 0)) = sayB m e := by
  have : ((chk e.text : Int) == 0) = (chk e.text == 0) := by
   rw [Bool.eq_iff_iff]; simp
  rw [this]; rfl
 rw [hs]; clear hs; go_wp2_with fail; go_ret; exact ⟨by simp, HE3.out⟩
def enB (e : En) : Bool := if e.kind = 1 then noneB e else if e.kind = 2 ∨ e.kind = 3 then memB e.member && aloneB e else if e.kind = 4 then sayB (memB e.member) e else false
def rightD (k : Nat) : List (Int × Value) := [(1, .func (.func 289) #[] #[]), (2, .func (.func 287) #[] #[.pointer (some ⟨k, 0, none⟩)]), (3, .func (.func 287) #[] #[.pointer (some ⟨k, 0, none⟩)]), (4, .func (.func 290) #[] #[.pointer (some ⟨k, 0, none⟩)])]
def nofn : Value := .nilFunc
theorem look_right (k : Nat) (e : En) (z : Value) : (e.kind = 1 ∧ lookI (rightD k) e.kind z = (.func (.func 289) #[] #[], true)) ∨ ((e.kind ≠ 1 ∧ (e.kind = 2 ∨ e.kind = 3)) ∧ lookI (rightD k) e.kind z = (.func (.func 287) #[] #[.pointer (some ⟨k, 0, none⟩)], true)) ∨
 ((e.kind ≠ 1 ∧ ¬ (e.kind = 2 ∨ e.kind = 3) ∧ e.kind = 4) ∧ lookI (rightD k) e.kind z = (.func (.func 290) #[] #[.pointer (some ⟨k, 0, none⟩)], true)) ∨ ((e.kind ≠ 1 ∧ ¬ (e.kind = 2 ∨ e.kind = 3) ∧ e.kind ≠ 4) ∧ lookI (rightD k) e.kind z = (z, false)) := by
 by_cases h1 : e.kind = 1
 · exact .inl ⟨h1, by rw [h1]; rfl⟩
 by_cases h2 : e.kind = 2
 · exact .inr (.inl ⟨⟨h1, .inl h2⟩, by rw [h2]; rfl⟩)
 by_cases h3 : e.kind = 3
 · exact .inr (.inl ⟨⟨h1, .inr h3⟩, by rw [h3]; rfl⟩)
 by_cases h4 : e.kind = 4
 · exact .inr (.inr (.inl ⟨⟨h1, by omega, h4⟩, by rw [h4]; rfl⟩))
 · refine .inr (.inr (.inr ⟨⟨h1, by omega, h4⟩, ?_⟩))
   unfold lookI rightD; have a1 : ¬ (1 : Int) = e.kind := fun h => h1 h.symm
   have a2 : ¬ (2 : Int) = e.kind := fun h => h2 h.symm
   have a3 : ¬ (3 : Int) = e.kind := fun h => h3 h.symm
   have a4 : ¬ (4 : Int) = e.kind := fun h => h4 h.symm
   simp [a1, a2, a3, a4]
theorem zeroFn (w : World) : (zeroValue 208).run Tryz.prog w = .ok nofn w := by kernel_rfl
theorem right_any (w : World) (e : En) (hI : I64 e.kind)
 (hC : e.kind = 4 → ∀ w1, Ext w w1 → Calls Tryz.prog 54 #[.string (bs e.text)] w1 fun r w' => r = .returned (.int .i64 (chk e.text : Int)) ∧ Ext w1 w') :
 Calls Tryz.prog 269 #[e.v] w fun r w' => r = .returned (.bool (enB e)) ∧ Ext w w' := by
 have HC := Hd hC; have HI := Hd hI; clear hC hI; unfold En.v; by_cases hm : 0 ≤ e.member
 · have hXM : Hid ((decide (e.member < 16)) = memB e.member) := Hd (by unfold memB; rw [decide_eq_true hm, Bool.true_and])
   go_enter Tryz.func269, Tryz.ntmps269
   go_wp2_with fail; have bx0 := ((Box.new w 35 [.int .i64 e.kind, .int .i64 e.member, .int .i64 e.number, .string (bs e.text)]).alloc (Obj.cells #[.bool (decide (e.member < 16))] 4)); have bx1 := (Box.new (w.alloc (Obj.cells #[.int .i64 e.kind, .int .i64 e.member, .int .i64 e.number, .string (bs e.text)] 35)) 4 [.bool (decide (e.member < 16))]); have ex : Ext w ((w.alloc (Obj.cells #[.int .i64 e.kind, .int .i64 e.member, .int .i64 e.number, .string (bs e.text)] 35)).alloc (Obj.cells #[.bool (decide (e.member < 16))] 4)) := (((Keeps.refl NoB w).alloc _).alloc _); have sx : ((w.alloc (Obj.cells #[.int .i64 e.kind, .int .i64 e.member, .int .i64 e.number, .string (bs e.text)] 35)).alloc (Obj.cells #[.bool (decide (e.member < 16))] 4)).heap.size = w.heap.size + 2 := by simp
   simp only [World.size_alloc] at bx1; generalize ((w.alloc (Obj.cells #[.int .i64 e.kind, .int .i64 e.member, .int .i64 e.number, .string (bs e.text)] 35)).alloc (Obj.cells #[.bool (decide (e.member < 16))] 4)) = w0 at bx0 bx1 ex sx ⊢
   have Sx := Hd sx; clear sx; have HX := Hd ex; have B0 := Hd bx0; have B1 := Hd bx1; have hlt := bx1.lt; clear ex bx0 bx1; rw [hXM.out] at B1; obtain ⟨k, hk⟩ : ∃ k, w.heap.size + 1 = k := ⟨_, rfl⟩; have HKK := Hd hk; rw [hk]; clear hk; have hmm := run_makeMap (P := Tryz.prog) 337 w0; have put := fun (w : World) (D : List (Int × Value)) (m : Nat) (h : MapI w m D) (n : Int) (hn : I64 n) (hne : ∀ p ∈ D, p.1 ≠ n) (v : Value) => h.put Tryz.underlying337 Tryz.underlying33 hn hne v
   obtain ⟨w1, r1, m1, k1⟩ := put _ _ _ (mapi_new w0) 1 (i64_lit 1 rfl) (by simp) (.func (.func 289) #[] #[]); obtain ⟨w2, r2, m2, k2⟩ := put _ _ _ m1 2 (i64_lit 2 rfl) (by simp) (.func (.func 287) #[] #[.pointer (some ⟨k, 0, none⟩)]); obtain ⟨w3, r3, m3, k3⟩ := put _ _ _ m2 3 (i64_lit 3 rfl) (by simp) (.func (.func 287) #[] #[.pointer (some ⟨k, 0, none⟩)]); obtain ⟨w4, r4, m4, k4⟩ := put _ _ _ m3 4 (i64_lit 4 rfl) (by simp) (.func (.func 290) #[] #[.pointer (some ⟨k, 0, none⟩)]); have hE4 : Ext w0 w4 := ((Keeps.refl NoB w0).alloc _).then (((k1.trans k2).trans k3).trans k4) fun i hi h => absurd (show i = w0.heap.size from h) (by omega)
   have hlk : (Instr.lookup 337 (.map (some w0.heap.size)) (.int .i64 e.kind) true).run Tryz.prog w4 = .ok (.tuple #[(lookI (rightD k) e.kind nofn).1, .bool (lookI (rightD k) e.kind nofn).2]) w4 :=
    MapI.look (D := rightD k) m4 Tryz.underlying337 Tryz.underlying33 zeroFn HI.out (by unfold rightD; simp) true
   replace B0 := Hd (B0.out.ext hE4); replace B1 := Hd (B1.out.ext hE4); have HE := Hd (HX.out.ext hE4); clear m1 m2 m3 m4 k1 k2 k3 k4 put hE4 hlt; obtain ⟨cB0, zB0⟩ := B0.out.reads; have lB0 := B0.out.lt; rcases look_right k e nofn with ⟨h1, h2⟩ | ⟨h1, h2⟩ | ⟨h1, h2⟩ | ⟨h1, h2⟩
   · rw [h2] at hlk
     have H1 := Hd h1; clear h1 h2; go_wp2_with fail; refine (right2_any _ e).mono ?_; rintro r w5 ⟨rfl, hE5⟩; have HE5 := Hd (HE.out.ext hE5); clear hE5; clear cB0 zB0 lB0; go_wp2_with fail; go_ret; exact ⟨by rw [enB, if_pos H1.out]; simp, HE5.out⟩
   · rw [h2] at hlk
     have H1 := Hd h1; clear h1 h2; go_wp2_with fail; refine (right1_any _ k (memB e.member) e (by have h9 := B1.out; rw [HKK.out] at h9; exact h9)).mono ?_; rintro r w5 ⟨rfl, hE5⟩; have HE5 := Hd (HE.out.ext hE5); clear hE5; clear cB0 zB0 lB0; go_wp2_with fail; go_ret; exact ⟨by rw [enB, if_neg H1.out.1, if_pos H1.out.2]; simp, HE5.out⟩
   · rw [h2] at hlk
     have H1 := Hd h1; clear h1 h2; go_wp2_with fail; refine (right3_any _ k (memB e.member) e (by have h9 := B1.out; rw [HKK.out] at h9; exact h9) (fun W hW => HC.out H1.out.2.2 W (HE.out.ext hW))).mono ?_; rintro r w5 ⟨rfl, hE5⟩; have HE5 := Hd (HE.out.ext hE5); clear hE5; clear cB0 zB0 lB0; go_wp2_with fail; go_ret; exact ⟨by rw [enB, if_neg H1.out.1, if_neg H1.out.2.1, if_pos H1.out.2.2]; simp, HE5.out⟩
   · rw [h2] at hlk
     have H1 := Hd h1; clear h1 h2; go_wp2_with fail; clear cB0 zB0 lB0; go_ret; exact ⟨by rw [enB, if_neg H1.out.1, if_neg H1.out.2.1, if_neg H1.out.2.2]; simp, HE.out⟩
 · have hXM : Hid (false = memB e.member) := Hd (by unfold memB; rw [decide_eq_false hm, Bool.false_and])
   have hm2 : e.member < 0 := by omega
   go_enter Tryz.func269, Tryz.ntmps269
   go_wp2_with fail; have bx0 := ((Box.new w 35 [.int .i64 e.kind, .int .i64 e.member, .int .i64 e.number, .string (bs e.text)]).alloc (Obj.cells #[.bool false] 4)); have bx1 := (Box.new (w.alloc (Obj.cells #[.int .i64 e.kind, .int .i64 e.member, .int .i64 e.number, .string (bs e.text)] 35)) 4 [.bool false]); have ex : Ext w ((w.alloc (Obj.cells #[.int .i64 e.kind, .int .i64 e.member, .int .i64 e.number, .string (bs e.text)] 35)).alloc (Obj.cells #[.bool false] 4)) := (((Keeps.refl NoB w).alloc _).alloc _); have sx : ((w.alloc (Obj.cells #[.int .i64 e.kind, .int .i64 e.member, .int .i64 e.number, .string (bs e.text)] 35)).alloc (Obj.cells #[.bool false] 4)).heap.size = w.heap.size + 2 := by simp
   simp only [World.size_alloc] at bx1; generalize ((w.alloc (Obj.cells #[.int .i64 e.kind, .int .i64 e.member, .int .i64 e.number, .string (bs e.text)] 35)).alloc (Obj.cells #[.bool false] 4)) = w0 at bx0 bx1 ex sx ⊢
   have Sx := Hd sx; clear sx; have HX := Hd ex; have B0 := Hd bx0; have B1 := Hd bx1; have hlt := bx1.lt; clear ex bx0 bx1; rw [hXM.out] at B1; obtain ⟨k, hk⟩ : ∃ k, w.heap.size + 1 = k := ⟨_, rfl⟩; have HKK := Hd hk; rw [hk]; clear hk; have hmm := run_makeMap (P := Tryz.prog) 337 w0; have put := fun (w : World) (D : List (Int × Value)) (m : Nat) (h : MapI w m D) (n : Int) (hn : I64 n) (hne : ∀ p ∈ D, p.1 ≠ n) (v : Value) => h.put Tryz.underlying337 Tryz.underlying33 hn hne v
   obtain ⟨w1, r1, m1, k1⟩ := put _ _ _ (mapi_new w0) 1 (i64_lit 1 rfl) (by simp) (.func (.func 289) #[] #[]); obtain ⟨w2, r2, m2, k2⟩ := put _ _ _ m1 2 (i64_lit 2 rfl) (by simp) (.func (.func 287) #[] #[.pointer (some ⟨k, 0, none⟩)]); obtain ⟨w3, r3, m3, k3⟩ := put _ _ _ m2 3 (i64_lit 3 rfl) (by simp) (.func (.func 287) #[] #[.pointer (some ⟨k, 0, none⟩)]); obtain ⟨w4, r4, m4, k4⟩ := put _ _ _ m3 4 (i64_lit 4 rfl) (by simp) (.func (.func 290) #[] #[.pointer (some ⟨k, 0, none⟩)]); have hE4 : Ext w0 w4 := ((Keeps.refl NoB w0).alloc _).then (((k1.trans k2).trans k3).trans k4) fun i hi h => absurd (show i = w0.heap.size from h) (by omega)
   have hlk : (Instr.lookup 337 (.map (some w0.heap.size)) (.int .i64 e.kind) true).run Tryz.prog w4 = .ok (.tuple #[(lookI (rightD k) e.kind nofn).1, .bool (lookI (rightD k) e.kind nofn).2]) w4 :=
    MapI.look (D := rightD k) m4 Tryz.underlying337 Tryz.underlying33 zeroFn HI.out (by unfold rightD; simp) true
   replace B0 := Hd (B0.out.ext hE4); replace B1 := Hd (B1.out.ext hE4); have HE := Hd (HX.out.ext hE4); clear m1 m2 m3 m4 k1 k2 k3 k4 put hE4 hlt; obtain ⟨cB0, zB0⟩ := B0.out.reads; have lB0 := B0.out.lt; rcases look_right k e nofn with ⟨h1, h2⟩ | ⟨h1, h2⟩ | ⟨h1, h2⟩ | ⟨h1, h2⟩
   · rw [h2] at hlk
     have H1 := Hd h1; clear h1 h2; go_wp2_with fail; refine (right2_any _ e).mono ?_; rintro r w5 ⟨rfl, hE5⟩; have HE5 := Hd (HE.out.ext hE5); clear hE5; clear cB0 zB0 lB0; go_wp2_with fail; go_ret; exact ⟨by rw [enB, if_pos H1.out]; simp, HE5.out⟩
   · rw [h2] at hlk
     have H1 := Hd h1; clear h1 h2; go_wp2_with fail; refine (right1_any _ k (memB e.member) e (by have h9 := B1.out; rw [HKK.out] at h9; exact h9)).mono ?_; rintro r w5 ⟨rfl, hE5⟩; have HE5 := Hd (HE.out.ext hE5); clear hE5; clear cB0 zB0 lB0; go_wp2_with fail; go_ret; exact ⟨by rw [enB, if_neg H1.out.1, if_pos H1.out.2]; simp, HE5.out⟩
   · rw [h2] at hlk
     have H1 := Hd h1; clear h1 h2; go_wp2_with fail; refine (right3_any _ k (memB e.member) e (by have h9 := B1.out; rw [HKK.out] at h9; exact h9) (fun W hW => HC.out H1.out.2.2 W (HE.out.ext hW))).mono ?_; rintro r w5 ⟨rfl, hE5⟩; have HE5 := Hd (HE.out.ext hE5); clear hE5; clear cB0 zB0 lB0; go_wp2_with fail; go_ret; exact ⟨by rw [enB, if_neg H1.out.1, if_neg H1.out.2.1, if_pos H1.out.2.2]; simp, HE5.out⟩
   · rw [h2] at hlk
     have H1 := Hd h1; clear h1 h2; go_wp2_with fail; clear cB0 zB0 lB0; go_ret; exact ⟨by rw [enB, if_neg H1.out.1, if_neg H1.out.2.1, if_neg H1.out.2.2]; simp, HE.out⟩
structure Sd where
 kind : Int
 member : Int
 number : Int
 index : Int
 is : Bool
 text : List UInt8
 token : List UInt8
 e : En
deriving DecidableEq
def En0 : En := ⟨0, 0, 0, []⟩
def Sd.of (k : Int) : Sd := ⟨k, 0, 0, 0, false, [], [], En0⟩
abbrev Sd.cells (s : Sd) : List Value := [.int .i64 s.kind, .int .i64 s.member, .int .i64 s.number, .int .i64 s.index, .bool s.is, .string (bs s.text), .string (bs s.token), .int .i64 s.e.kind, .int .i64 s.e.member, .int .i64 s.e.number, .string (bs s.e.text)]
def Sd.v (s : Sd) : Value := .agg s.cells.toArray
inductive Part
 | member | number (least : Int) | index | is | said | token | entry
deriving DecidableEq
def partsOf (k : Int) : Option (List Part) :=
 if k = 1 then some [.member, .token] else if k = 2 then some [] else if k = 3 then some [] else if k = 4 then some [.number 1, .said] else if k = 5 then some [.index] else if k = 6 then some []
 else if k = 7 then some [.is] else if k = 8 then some [.index, .token] else if k = 9 then some [.index, .token, .entry] else if k = 10 then some [.member, .is] else if k = 11 then some [.member, .is]
 else if k = 12 then some [.number 0] else none
def Part.clear : Part → Sd → Sd
 | .member, s => { s with member := 0 }
 | .number _, s => { s with number := 0 }
 | .index, s => { s with index := 0 }
 | .is, s => { s with is := false }
 | .said, s => { s with text := [] }
 | .token, s => { s with token := [] }
 | .entry, s => { s with e := En0 }
def Part.may : Part → Sd → Bool
 | .member, s => decide (0 ≤ s.member ∧ s.member ≤ 15)
 | .number least, s => decide (least ≤ s.number ∧ s.number ≤ 2147483647)
 | .index, s => decide (0 ≤ s.index ∧ s.index ≤ 2147483647)
 | .is, _ => true
 | .said, s => chk s.text == 0
 | .token, s => decide (s.token.length ≤ 200)
 | .entry, s => decide (s.e.kind ≠ 1) && enB s.e
def Part.lay : Part → Sd → List UInt8
 | .member, s => numL s.member.toNat
 | .number _, s => numL s.number.toNat
 | .index, s => numL s.index.toNat
 | .is, s => truL s.is
 | .said, s => txtL s.text
 | .token, s => txtL s.token
 | .entry, s => numL s.e.kind.toNat ++ numL s.e.member.toNat ++ (if s.e.kind = 4 then numL s.e.number.toNat ++ txtL s.e.text else [])
def Part.take : Part → Rdr → Sd → Rdr × Sd
 | .member, r, s => ((r.num 15).1, { s with member := (r.num 15).2.1 })
 | .number _, r, s => ((r.num 2147483647).1, { s with number := (r.num 2147483647).2.1 })
 | .index, r, s => ((r.num 2147483647).1, { s with index := (r.num 2147483647).2.1 })
 | .is, r, s => (r.tru.1, { s with is := r.tru.2.1 })
 | .said, r, s => ((r.txt 200).1, { s with text := (r.txt 200).2.1 })
 | .token, r, s => ((r.txt 200).1, { s with token := (r.txt 200).2.1 })
 | .entry, r, s =>
   let a := r.num 4
   let b := a.1.num 15
   if a.2.1 = 4 then
    let c := b.1.num 2147483647
    let d := c.1.txt 200
    (d.1, { s with e := ⟨a.2.1, b.2.1, c.2.1, d.2.1⟩ })
   else (b.1, { s with e := ⟨a.2.1, b.2.1, s.e.number, s.e.text⟩ })
def sdB (s : Sd) : Bool := match partsOf s.kind with
 | none => false
 | some ps => decide (ps.foldl (fun x p => p.clear x) s = Sd.of s.kind) && ps.all fun p => p.may s
def bodyL (s : Sd) : List UInt8 := numL s.kind.toNat ++ (((partsOf s.kind).getD []).map fun p => p.lay s).flatten
def takeAll (ps : List Part) (r : Rdr) (s : Sd) : Rdr × Sd := ps.foldl (fun x p => p.take x.1 x.2) (r, s)
def parseL (b : List UInt8) : Sd × Int :=
 let a := (⟨b, 0⟩ : Rdr).num 12
 let x := takeAll ((partsOf a.2.1).getD []) a.1 (Sd.of a.2.1)
 if a.2.2 = 0 ∧ x.1.e = 0 ∧ x.1.b = [] ∧ sdB x.2 = true then (x.2, 0) else (Sd.of 0, 340)
theorem Rdr.num_err {r : Rdr} (g : Int) (h : r.e ≠ 0) : r.num g = (r, 0, r.e) := by unfold Rdr.num; rw [if_pos h]
theorem Rdr.num_e' (r : Rdr) (g : Int) (hg : 0 ≤ g) : (r.num g).2.2 = (r.num g).1.e := by
 unfold Rdr.num; split
 · rfl
 · rw [if_neg (by omega)]; split <;> rfl
theorem Rdr.num_lt (r : Rdr) (g : Int) (hg : 0 ≤ g) : ((r.num g).2.1 : Int) ≤ g := by
 unfold Rdr.num; split
 · simpa using hg
 · rw [if_neg (by omega)]
   split
   · rename_i h; exact h.2
   · simpa using hg
theorem Rdr.num_len (r : Rdr) (g : Int) : (r.num g).1.b.length ≤ r.b.length := by
 unfold Rdr.num; split
 · exact Nat.le_refl _
 · split
   · exact Nat.le_refl _
   · split
     · dsimp only; rw [List.length_drop]; omega
     · exact Nat.zero_le _
theorem Rdr.txt_e' (r : Rdr) (g : Int) (hg : 0 ≤ g) : (r.txt g).2.2 = (r.txt g).1.e := by
 unfold Rdr.txt; split
 · exact Rdr.num_e' r g hg
 · split <;> rfl
theorem Rdr.txt_len (r : Rdr) (g : Int) : (r.txt g).1.b.length ≤ r.b.length := by
 have := r.num_len g; unfold Rdr.txt; split
 · exact this
 · split
   · dsimp only; rw [List.length_drop]; omega
   · exact Nat.zero_le _
theorem Rdr.txt_lt (r : Rdr) (g : Int) (hg : 0 ≤ g) : ((r.txt g).2.1.length : Int) ≤ g := by
 have := r.num_lt g hg; unfold Rdr.txt; split
 · simpa using hg
 · split
   · dsimp only; rw [List.length_take]; omega
   · simpa using hg
theorem Rdr.tru_e' (r : Rdr) : r.tru.2.2 = r.tru.1.e := by
 unfold Rdr.tru; split
 · rfl
 · split
   · rfl
   · split <;> rfl
theorem Rdr.tru_len (r : Rdr) : r.tru.1.b.length ≤ r.b.length := by
 unfold Rdr.tru; split
 · exact Nat.le_refl _
 · split
   · exact Nat.zero_le _
   · rename_i c l h
     split
     · rw [h]; simp
     · exact Nat.zero_le _
theorem Part.take_len (p : Part) (r : Rdr) (s : Sd) : (p.take r s).1.b.length ≤ r.b.length := by
 cases p <;> unfold Part.take
 · exact r.num_len _
 · exact r.num_len _
 · exact r.num_len _
 · exact r.tru_len
 · exact r.txt_len _
 · exact r.txt_len _
 · dsimp only
   have h1 := r.num_len 4; have h2 := (r.num 4).1.num_len 15; have h3 := ((r.num 4).1.num 15).1.num_len 2147483647; have h4 := (((r.num 4).1.num 15).1.num 2147483647).1.txt_len 200; split
   · dsimp only; omega
   · dsimp only; omega
theorem Rdr.num_sticky {r : Rdr} (g : Int) (hg : 0 ≤ g) (h : r.e ≠ 0) : (r.num g).1.e ≠ 0 := by rw [r.num_err g h]; exact h
theorem Rdr.txt_sticky {r : Rdr} (g : Int) (h : r.e ≠ 0) : (r.txt g).1.e ≠ 0 := by
 unfold Rdr.txt; rw [r.num_err g h]; rw [if_pos h]; exact h
theorem Rdr.tru_sticky {r : Rdr} (h : r.e ≠ 0) : r.tru.1.e ≠ 0 := by unfold Rdr.tru; rw [if_pos h]; exact h
theorem Part.take_sticky (p : Part) {r : Rdr} (s : Sd) (h : r.e ≠ 0) : (p.take r s).1.e ≠ 0 := by
 cases p <;> unfold Part.take
 · exact Rdr.num_sticky _ (by decide) h
 · exact Rdr.num_sticky _ (by decide) h
 · exact Rdr.num_sticky _ (by decide) h
 · exact Rdr.tru_sticky h
 · exact Rdr.txt_sticky _ h
 · exact Rdr.txt_sticky _ h
 · dsimp only
   have h1 := Rdr.num_sticky 4 (by decide) h; have h2 := Rdr.num_sticky 15 (by decide) h1; have h3 := Rdr.num_sticky 2147483647 (by decide) h2; have h4 := Rdr.txt_sticky 200 h3; split
   · exact h4
   · exact h2
theorem takeAll_sticky : ∀ (ps : List Part) {r : Rdr} (s : Sd), r.e ≠ 0 → (takeAll ps r s).1.e ≠ 0
 | [], r, s, h => h
 | p :: ps, r, s, h => takeAll_sticky ps (p.take r s).2 (p.take_sticky s h)
theorem takeAll_cons (p : Part) (ps : List Part) (r : Rdr) (s : Sd) : takeAll (p :: ps) r s = takeAll ps (p.take r s).1 (p.take r s).2 := rfl
def Part.slot : Part → Nat
 | .member => 0
 | .number _ => 1
 | .index => 2
 | .is => 3
 | .said => 4
 | .token => 5
 | .entry => 6
theorem partsOf_nodup (k : Int) : (((partsOf k).getD []).map Part.slot).Nodup := by
 by_cases hk : 1 ≤ k ∧ k ≤ 12
 · obtain rfl | rfl | rfl | rfl | rfl | rfl | rfl | rfl | rfl | rfl | rfl | rfl : k = 1 ∨ k = 2 ∨ k = 3 ∨ k = 4 ∨ k = 5 ∨ k = 6 ∨ k = 7 ∨ k = 8 ∨ k = 9 ∨ k = 10 ∨ k = 11 ∨ k = 12 := by omega
   all_goals decide
 · have : partsOf k = none := by
    unfold partsOf; simp only [show ¬ k = 1 by omega, show ¬ k = 2 by omega, show ¬ k = 3 by omega, show ¬ k = 4 by omega, show ¬ k = 5 by omega, show ¬ k = 6 by omega, show ¬ k = 7 by omega, show ¬ k = 8 by omega, show ¬ k = 9 by omega, show ¬ k = 10 by omega, show ¬ k = 11 by omega, show ¬ k = 12 by omega, if_false]
   rw [this]; decide

end Go.Proofs.YtoadjbgpfihoiaaGreatDoor
