/- Texts RowB, RowW, one behind the other. Conditions: as each says. -/
import Derived.Test.YtoadjbgpfihoiaaGreatDoorFuE
set_option linter.unusedVariables false
set_option linter.unusedSimpArgs false
set_option maxHeartbeats 8000000
set_option maxRecDepth 100000
namespace Go.Proofs.YtoadjbgpfihoiaaGreatDoor
open Go.RowKit
section
section
variable {α : Type} {E : Enc α} {P : Program} {W w : World} {v : Value} {l : List α}
def RowAt (E : Enc α) (w : World) (base : Nat) (v : Value) (l : List α) : Prop := Win w base E.sz v l.length (E.row l)
theorem RowAt.ext {w' : World} {base : Nat} (h : RowAt E w base v l) (e : Ext w w') : RowAt E w' base v l := Win.ext h e
theorem RowAt.len {base : Nat} (h : RowAt E w base v l) : ∃ a c, v = .slice a l.length c := Win.len h
theorem RowAt.mono {base base' : Nat} (h : RowAt E w base v l) (hb : base' ≤ base) : RowAt E w base' v l := Win.mono h hb
theorem RowAt.at {base c : Nat} {a : Option Addr} (h : RowAt E w base (.slice a l.length c) l) (k : Nat) (hk : k < l.length) :
 ∃ g o, a = some ⟨g, o, none⟩ ∧ g < w.heap.size ∧ ∀ j, j < E.sz → w.cell? ⟨g, o + k * E.sz + j, none⟩ = (E.cells l[k])[j]? := by
 obtain ⟨g, o, cap, hv, -, hg, -, h4⟩ := Win.form h (by omega); cases hv
 refine ⟨g, o, rfl, hg, fun j hj => ?_⟩; have h5 := E.row_get l k j hk hj; have h6 : j < (E.cells l[k]).length := by rw [E.len]; exact hj
 rw [List.getElem?_eq_getElem h6] at h5 ⊢; have := h4 _ _ h5; rw [← Nat.add_assoc] at this; exact this
theorem fresh_append (t tx ty e : TypeId) (i : TypeInfo) (z : Value) (bytes : Nat) (ht : P.underlying t = some (.slice e)) (htx : P.underlying tx = some (.slice e)) (hi : P.info? e = some i) (hz : i.zero = some z)
 (hsize : i.size = E.sz) (hby : i.bytes = bytes) (hzs : z.cells.size = E.sz) (hE : Ext W w) (hw : RowAt E w W.heap.size v l) (x : Value) (l' : List α) (hs : SrcCells w x l'.length (E.row l'))
 (h63 : l.length + l'.length ≤ maxLen) (hbytes : (l.length + l'.length) * bytes ≤ 140737488355328) :
 ∃ v' w', (Builtin.append_ #[t, tx] ty #[v, x]).run P w = .ok v' w' ∧ RowAt E w' W.heap.size v' (l ++ l') ∧ Ext W w' := by
 obtain ⟨v', w', hr, hw', hk, ho⟩ := run_append_win w W.heap.size t tx ty e i z E.sz bytes ht hi hz hsize hby hzs v l.length (E.row l) hw x l'.length (E.row l') (hs.toSrc htx (E.row_len l') (E.row_one l')) h63 hbytes hE.size; refine ⟨v', w', hr, ?_, hE.then hk fun k hk h => ?_⟩
 · unfold RowAt
   rw [E.row_append, List.length_append]; exact hw'
 · have := (Win.block hw k h).1
   omega
theorem RowAt.empty {g : Nat} (hb : W.heap.size ≤ g) (hg : g < w.heap.size) : RowAt E w W.heap.size (.slice (some ⟨g, 0, none⟩) 0 0) [] := Win.empty hb hg
theorem RowAt.src {base : Nat} (h : RowAt E w base v l) : SrcCells w v l.length (E.row l) := Win.src h
theorem one_src {g c : Nat} {x : α} (hb : ∀ o, w.cell? ⟨g, o, none⟩ = (E.cells x)[o]?) : SrcCells w (.slice (some ⟨g, 0, none⟩) 1 c) [x].length (E.row [x]) := .inr ⟨_, _, rfl, fun j u hu => by
 have : E.row [x] = E.cells x := by rw [Enc.row, Enc.row, List.append_nil]
 rw [this] at hu; rw [← hu, ← hb j]; by_cases hj : j = 0
 · subst hj; rfl
 · simp [Addr.add, hj]⟩
theorem RowAt.res {base : Nat} (h : RowAt E w base v l) : (rowR E v l).p (Own v) w := ⟨fun k => Iff.rfl, Win.mono h (Nat.zero_le _)⟩
theorem Mem.newRow {F : Nat → Prop} {w0 : World} {L : List Res} (h : Mem F w0 W L) (e : Ext W w) (hr : RowAt E w W.heap.size v l) : Mem F w0 w (rowR E v l :: L) :=
 h.new (r := rowR E v l) (G := Own v) e hr.res fun k hk => (Win.block hr k hk).1
theorem Upd.row {w0 : World} (h : Upd NoB w0 w (rowR E v l)) : RowAt E w w0.heap.size v l ∧ Ext w0 w := by
 obtain ⟨F', ⟨h1, h2⟩, h3, h4⟩ := h; refine ⟨?_, h3⟩; obtain ⟨h0, h5 | ⟨g, o, cap, a1, a2, a3⟩⟩ := h2
 · exact ⟨h0, .inl h5⟩
 · refine ⟨h0, .inr ⟨g, o, cap, a1, ?_, a3⟩⟩
   rcases h4 g ((h1 g).2 (by rw [a1]; rfl)) with h | h
   · exact (noB _ h).elim
   · exact h
theorem RowAt.keeps {base : Nat} {S : Nat → Prop} {w' : World} (h : RowAt E w base v l) (hk : Keeps S w w') (hs : ∀ k, Own v k → ¬ S k) : RowAt E w' base v l := Win.keeps h hk hs
end
section
variable {P : Program} {ops : Array Oper} {o : Oper} {a : Act} {w' w0 wr : World} {Q : Exit → Act → World → Prop} {F : Nat → Prop} {L : List Res} {K : Act → World → Prop}
end
end
section
theorem Win.put {w : World} {base sz n g o c : Nat} {cs : List Value} (h : Win w base sz (.slice (some ⟨g, o, none⟩) n c) n cs) (k : Nat) (vs : List Value) (hk : k + vs.length ≤ n * sz) :
 w.there g (o + k) vs.length ∧ Win (w.setCells g (o + k) vs) base sz (.slice (some ⟨g, o, none⟩) n c) n (cs.take k ++ vs ++ cs.drop (k + vs.length)) := by
 obtain ⟨h0, ⟨h1, -⟩ | ⟨g', o', cap, h1, h2, h3, h4, h5, h6, h7⟩⟩ := h
 · cases h1
 cases h1
 have hb : n * sz ≤ c * sz := Nat.mul_le_mul_right _ h3; have hth : w.there g (o + k) vs.length := fun j hj => by rw [Nat.add_assoc]; exact h6 _ (by omega)
 have ht : (cs.take k).length = k := by rw [List.length_take]; omega
 refine ⟨hth, by rw [List.length_append, List.length_append, ht, List.length_drop]; omega, .inr ⟨g, o, c, rfl, h2, h3, h4, by rw [(heap_block_setCells g vs _ w).1]; exact h5, World.there_setCells h6 _ _ _, ?_⟩⟩; refine rangeAt_append (rangeAt_append (World.rangeAt_setCells_apart (fun j v hv => h7 j v ?_) _ _ _ (.inr (.inl (by rw [ht]; omega)))) (by rw [ht]; exact World.rangeAt_setCells_same _ _ _ _ hth)) ?_
 · have hj : j < (cs.take k).length := (List.getElem?_eq_some_iff.1 hv).1
   rwa [List.getElem?_take_of_lt (by omega)] at hv
 · refine World.rangeAt_setCells_apart (fun j v hv => ?_) _ _ _ (.inr (.inr (by rw [List.length_append, ht]; omega)))
   rw [List.getElem?_drop] at hv; have := h7 _ v hv; rw [List.length_append, ht, show o + (k + vs.length) + j = o + (k + vs.length + j) by omega]; exact this
theorem Win.front {w : World} {base sz n g o c : Nat} {cs : List Value} (h : Win w base sz (.slice (some ⟨g, o, none⟩) n c) n cs) (m : Nat) (hm : m ≤ n) : Win w base sz (.slice (some ⟨g, o, none⟩) m c) m (cs.take (m * sz)) := by
 obtain ⟨h0, ⟨h1, -⟩ | ⟨g', o', cap, h1, h2, h3, h4, h5, h6, h7⟩⟩ := h
 · cases h1
 cases h1
 have hb : m * sz ≤ n * sz := Nat.mul_le_mul_right _ hm; refine ⟨by rw [List.length_take]; omega, .inr ⟨g, o, c, rfl, h2, by omega, h4, h5, h6, fun j v hv => h7 j v ?_⟩⟩; have hj : j < (cs.take (m * sz)).length := (List.getElem?_eq_some_iff.1 hv).1; rw [List.length_take] at hj; rwa [List.getElem?_take_of_lt (by omega)] at hv
section
variable {α : Type} {E : Enc α} {w w0 : World} {F A : Nat → Prop} {L : List Res}
theorem Enc.row_take (E : Enc α) (l : List α) (i : Nat) : (E.row l).take (i * E.sz) = E.row (l.take i) := by
 by_cases hi : i ≤ l.length
 · have h := E.row_append (l.take i) (l.drop i)
   rw [List.take_append_drop] at h; have hl : (E.row (l.take i)).length = i * E.sz := by rw [E.row_len, List.length_take, Nat.min_eq_left hi]
   rw [h, ← hl, List.take_left']; rfl
 · have h1 : (E.row l).length ≤ i * E.sz := by rw [E.row_len]; exact Nat.mul_le_mul_right _ (by omega)
   rw [List.take_of_length_le h1, List.take_of_length_le (by omega)]
theorem Enc.row_drop (E : Enc α) (l : List α) (i : Nat) : (E.row l).drop (i * E.sz) = E.row (l.drop i) := by
 by_cases hi : i ≤ l.length
 · have h := E.row_append (l.take i) (l.drop i)
   rw [List.take_append_drop] at h; have hl : (E.row (l.take i)).length = i * E.sz := by rw [E.row_len, List.length_take, Nat.min_eq_left hi]
   rw [h, ← hl, List.drop_left']; rfl
 · have h1 : (E.row l).length ≤ i * E.sz := by rw [E.row_len]; exact Nat.mul_le_mul_right _ (by omega)
   rw [List.drop_of_length_le h1, List.drop_of_length_le (by omega)]; rfl
theorem row_put {g o c n : Nat} {l : List α} (h : (rowR E (.slice (some ⟨g, o, none⟩) n c) l).p A w) (i : Nat) (m : List α) (hi : i + m.length ≤ l.length) :
 w.there g (o + i * E.sz) (E.row m).length ∧ Upd A w (w.setCells g (o + i * E.sz) (E.row m)) (rowR E (.slice (some ⟨g, o, none⟩) n c) (l.take i ++ m ++ l.drop (i + m.length))) := by
 obtain ⟨h1, h2⟩ := h; obtain ⟨a, c2, hl⟩ := h2.len; cases hl
 have hle : i * E.sz + (E.row m).length ≤ l.length * E.sz := by rw [E.row_len, ← Nat.add_mul]; exact Nat.mul_le_mul_right _ hi
 obtain ⟨p1, p2⟩ := Win.put h2 (i * E.sz) (E.row m) hle; refine ⟨p1, A, ⟨fun k => h1 k, ?_⟩, (Keeps.refl _ _).setCells _ _ _ (.inl ((h1 g).2 rfl)), fun k hk => .inl hk⟩; rw [E.row_take, E.row_len, ← Nat.add_mul, E.row_drop, ← E.row_append, ← E.row_append] at p2
 have : (l.take i ++ m ++ l.drop (i + m.length)).length = l.length := by
  rw [List.length_append, List.length_append, List.length_take, List.length_drop]; omega
 rw [this]; exact p2
theorem row_front {g o c n : Nat} {l : List α} (h : (rowR E (.slice (some ⟨g, o, none⟩) n c) l).p A w) (i : Nat) (hi : i ≤ l.length) : (rowR E (.slice (some ⟨g, o, none⟩) i c) (l.take i)).p A w := by
 obtain ⟨h1, h2⟩ := h; obtain ⟨a, c2, hl⟩ := h2.len; cases hl
 refine ⟨h1, ?_⟩; have := Win.front h2 i hi; rw [E.row_take] at this; rw [List.length_take, Nat.min_eq_left hi]; exact this
theorem zero_row (E : Enc α) (x : α) (z : Array Value) (hz : z.toList = E.cells x) (hs : 0 < E.sz) (n : Nat) : (Builtin.zeroCells z n).toList = E.row (List.replicate n x) := by
 have hsz : z.size = E.sz := by rw [← Array.length_toList, hz, E.len]
 apply List.ext_getElem
 · rw [E.row_len]; simp [Builtin.zeroCells, hsz]
 intro j h1 h2; have hj : j < n * E.sz := by rw [E.row_len] at h2; simpa using h2
 have hq : j / E.sz < n := Nat.div_lt_of_lt_mul (by rw [Nat.mul_comm]; exact hj); have hr : j % E.sz < E.sz := Nat.mod_lt _ hs; have e := E.row_get (List.replicate n x) (j / E.sz) (j % E.sz) (by simpa using hq) hr; rw [Nat.div_add_mod'] at e; have e2 : (E.row (List.replicate n x))[j]? = some ((E.row (List.replicate n x))[j]) := List.getElem?_eq_getElem h2; rw [e2] at e; have hrz : j % E.sz < z.toList.length := by rw [hz, E.len]; exact hr
 simp only [List.getElem_replicate, ← hz, List.getElem?_eq_getElem hrz] at e; have e3 := Option.some.inj e; rw [e3]; simp [Builtin.zeroCells, hsz]; rw [getElem!_pos z _ (by rw [hsz]; exact hr)]
theorem run_clear_row {P : Program} (w : World) (t e ty : TypeId) (z : Value) (ht : P.underlying t = some (.slice e)) (hv : (zeroValue e).run P w = .ok z w) (g o n c : Nat) (hn : 0 < n) (vs : List Value)
 (hz : (Builtin.zeroCells z.cells n).toList = vs) (hth : w.there g o vs.length) (h1 : ∀ v ∈ vs, v.oneCell' = true) : (Builtin.clear_ #[t] ty #[.slice (some ⟨g, o, none⟩) n c]).run P w = .ok (.tuple #[]) (w.setCells g o vs) := by
 have hst := run_storeCells_cells (P := P) g o vs 0 w (fun j hj => by simpa using (hth j hj).1) (fun j hj => by simpa using (hth j hj).2) h1; simp only [Nat.add_zero] at hst; obtain ⟨m, rfl⟩ : ∃ m, n = m + 1 := ⟨n - 1, by omega⟩; simp [Builtin.clear_, run_underlying ht, hv, hz, hst]
end
theorem run_append_full {P : Program} (w : World) (b0 : Nat) (t tx ty e : TypeId) (i : TypeInfo) (z : Value) (sz bytes : Nat) (ht : P.underlying t = some (.slice e)) (hi : P.info? e = some i) (hz : i.zero = some z)
 (hsize : i.size = sz) (hby : i.bytes = bytes) (hzs : z.cells.size = sz) (a : Option Addr) (n c0 : Nat) (cs : List Value) (hown : Win w b0 sz (.slice a n c0) n cs)
 (x : Value) (m : Nat) (news : List Value) (hm : 0 < m) (hs : Src P sz tx x m news w) (h63 : n + m ≤ maxLen) (hbytes : (n + m) * bytes ≤ 140737488355328) :
 ∃ v' w', (Builtin.append_ #[t, tx] ty #[.slice a n n, x]).run P w = .ok v' w' ∧ Win w' w.heap.size sz v' (n + m) (cs ++ news) ∧ Ext w w' := by
 subst hsize; subst hby
 have hnl := hs.newsLen; have h63' : ((n + m : Nat) : Int) ≤ 9223372036854775807 := by simp only [maxLen] at h63; omega
 have hlen : (cs ++ news).length = (n + m) * i.size := by rw [List.length_append, hown.1, hnl, Nat.add_mul]
 have grown : ∀ (old : Nat), Win (w.drew.alloc (.cells ((cs ++ news).toArray ++ Builtin.zeroCells z.cells (grownCap w (n + m) old e - (n + m))) e)) w.heap.size i.size
  (.slice (some ⟨w.heap.size, 0, none⟩) (n + m) (grownCap w (n + m) old e)) (n + m) (cs ++ news) := by
  intro old; have hge := grownCap_ge w (n + m) old e; have hcm := grownCap_le_maxLen w (n + m) old e h63
  have hnew : (w.drew.alloc (.cells ((cs ++ news).toArray ++ Builtin.zeroCells z.cells (grownCap w (n + m) old e - (n + m))) e)).heap[w.heap.size]? = some (.cells ((cs ++ news).toArray ++ Builtin.zeroCells z.cells (grownCap w (n + m) old e - (n + m))) e (0, 0)) :=
   World.alloc_heap_new w.drew _
  have hsz : ((cs ++ news).toArray ++ Builtin.zeroCells z.cells (grownCap w (n + m) old e - (n + m))).size = grownCap w (n + m) old e * i.size := by
   rw [Array.size_append, size_zeroCells, hzs, List.size_toArray, hlen, ← Nat.add_mul]; congr 1
   omega
  refine ⟨hlen, .inr ⟨w.heap.size, 0, _, rfl, Nat.le_refl _, hge, hcm, by simp, fun j hj => ⟨?_, ?_⟩, fun j u hu => ?_⟩⟩
  · simp only [World.cell?, hnew, Nat.zero_add]
    rw [Array.getElem?_eq_getElem (by omega)]; rfl
  · simp only [World.frozen?, hnew]; simp
  · simp only [World.cell?, hnew, Nat.zero_add]
    have hj : j < (cs ++ news).length := (List.getElem?_eq_some_iff.1 hu).1; rw [Array.getElem?_append_left (by simpa using hj)]; simpa using hu
 have grownK : ∀ (o : Obj), Ext w (w.drew.alloc o) := fun o => ((Keeps.refl NoB w).drew).alloc o
 have hold : (Builtin.firstCells i.size n (.slice a n n)).run P w.drew = .ok cs.toArray w.drew := by
  rcases hown.2 with ⟨h1, rfl⟩ | ⟨g, o, cap, h1, hbg, hnc, hcm, hglt, hth, hra⟩
  · cases h1
    have hcs : cs = [] := List.eq_nil_of_length_eq_zero (by simpa using hown.1); subst hcs; exact run_firstCells_none w.drew i.size 0 0 0
  · cases h1
    exact run_firstCells_some w.drew i.size n ⟨g, o, none⟩ n n cs hown.1 (fun j u hu => by rw [Addr.add_lit]; exact hra j u hu)
 exact ⟨_, _, run_append_grow_src (P := P) w t tx ty e i z ht hi hz a n n cs hold x m news hs (by omega) h63' (growslice_fits (by omega) hbytes), grown n, grownK _⟩
theorem rowAt_full {α : Type} {E : Enc α} {P : Program} {w : World} {a : Option Addr} {c0 c b : Nat} {l : List α} {A : Nat → Prop} (t tx ty e : TypeId) (i : TypeInfo) (z : Value) (bytes : Nat) (ht : P.underlying t = some (.slice e)) (htx : P.underlying tx = some (.slice e)) (hi : P.info? e = some i) (hz : i.zero = some z)
 (hsize : i.size = E.sz) (hby : i.bytes = bytes) (hzs : z.cells.size = E.sz) (h : (rowR E (.slice a l.length c0) l).p A w) (x : α) (hb : ∀ o, w.cell? ⟨b, o, none⟩ = (E.cells x)[o]?)
 (h63 : l.length + 1 ≤ maxLen) (hbytes : (l.length + 1) * bytes ≤ 140737488355328) :
 ∃ v' w', (Builtin.append_ #[t, tx] ty #[.slice a l.length l.length, .slice (some ⟨b, 0, none⟩) 1 c]).run P w = .ok v' w' ∧ RowAt E w' w.heap.size v' (l ++ [x]) ∧ Ext w w' := by
 have hs : SrcCells w (.slice (some ⟨b, 0, none⟩) 1 c) [x].length (E.row [x]) := one_src hb; obtain ⟨v', w', hr, hw, hE⟩ := run_append_full w 0 t tx ty e i z E.sz bytes ht hi hz hsize hby hzs a l.length c0 (E.row l) h.2 (.slice (some ⟨b, 0, none⟩) 1 c) 1 (E.row [x]) (by decide) (hs.toSrc htx (E.row_len [x]) (E.row_one [x])) h63 hbytes; refine ⟨v', w', hr, ?_, hE⟩; unfold RowAt; rw [E.row_append, List.length_append]; exact hw
end
end Go.Proofs.YtoadjbgpfihoiaaGreatDoor
