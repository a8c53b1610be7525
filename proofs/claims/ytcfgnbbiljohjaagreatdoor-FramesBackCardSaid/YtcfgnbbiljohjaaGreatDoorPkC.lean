/- Texts RowB, Auto, Agg, U8, StrS, U8S, Crc, Take, Sum, Bytes, one behind the other. Conditions: as each says. -/
import Derived.Test.YtcfgnbbiljohjaaGreatDoorPkB
import Derived.ChangeKeysEq
import Derived.Deep.MidRow
import Derived.Test.YtcfgnbbiljohjaaGreatDoorRows
import Derived.Lib.ConvBytes
import Derived.Laws.IdiomStrings
section
/- Appends onto slices that were made since a world, as lists ('Enc'); a region's own things joined to those of before. No program is named here. -/
set_option linter.unusedVariables false
set_option linter.unusedSimpArgs false
namespace Go.Proofs.YtcfgnbbiljohjaaGreatDoor
open Go.RowKit
section
variable {α : Type} {E : Enc α} {P : Program} {W w : World} {v : Value} {l : List α}
/-- a slice of elements that may be read; base: its block lies there or above -/
def RowAt (E : Enc α) (w : World) (base : Nat) (v : Value) (l : List α) : Prop := Win w base E.sz v l.length (E.row l)
theorem RowAt.ext {w' : World} {base : Nat} (h : RowAt E w base v l) (e : Ext w w') : RowAt E w' base v l := Win.ext h e
theorem RowAt.len {base : Nat} (h : RowAt E w base v l) : ∃ a c, v = .slice a l.length c := Win.len h
theorem RowAt.mono {base base' : Nat} (h : RowAt E w base v l) (hb : base' ≤ base) : RowAt E w base' v l := Win.mono h hb
theorem RowAt.at {base c : Nat} {a : Option Addr} (h : RowAt E w base (.slice a l.length c) l) (k : Nat) (hk : k < l.length) :
    ∃ g o, a = some ⟨g, o, none⟩ ∧ g < w.heap.size ∧ ∀ j, j < E.sz → w.cell? ⟨g, o + k * E.sz + j, none⟩ = (E.cells l[k])[j]? := by
  obtain ⟨g, o, cap, hv, -, hg, -, h4⟩ := Win.form h (by omega)
  cases hv
  refine ⟨g, o, rfl, hg, fun j hj => ?_⟩
  have h5 := E.row_get l k j hk hj
  have h6 : j < (E.cells l[k]).length := by rw [E.len]; exact hj
  rw [List.getElem?_eq_getElem h6] at h5 ⊢
  have := h4 _ _ h5
  rw [← Nat.add_assoc] at this
  exact this
theorem fresh_append (t tx ty e : TypeId) (i : TypeInfo) (z : Value) (bytes : Nat) (ht : P.underlying t = some (.slice e)) (htx : P.underlying tx = some (.slice e)) (hi : P.info? e = some i) (hz : i.zero = some z)
    (hsize : i.size = E.sz) (hby : i.bytes = bytes) (hzs : z.cells.size = E.sz) (hE : Ext W w) (hw : RowAt E w W.heap.size v l) (x : Value) (l' : List α) (hs : SrcCells w x l'.length (E.row l'))
    (h63 : l.length + l'.length ≤ maxLen) (hbytes : (l.length + l'.length) * bytes ≤ 140737488355328) :
    ∃ v' w', (Builtin.append_ #[t, tx] ty #[v, x]).run P w = .ok v' w' ∧ RowAt E w' W.heap.size v' (l ++ l') ∧ Ext W w' := by
  obtain ⟨v', w', hr, hw', hk, ho⟩ := run_append_win w W.heap.size t tx ty e i z E.sz bytes ht hi hz hsize hby hzs v l.length (E.row l) hw x l'.length (E.row l') (hs.toSrc htx (E.row_len l') (E.row_one l')) h63 hbytes hE.size
  refine ⟨v', w', hr, ?_, hE.then hk fun k hk h => ?_⟩
  · unfold RowAt
    rw [E.row_append, List.length_append]
    exact hw'
  · have := (Win.block hw k h).1
    omega
theorem RowAt.empty {g : Nat} (hb : W.heap.size ≤ g) (hg : g < w.heap.size) : RowAt E w W.heap.size (.slice (some ⟨g, 0, none⟩) 0 0) [] := Win.empty hb hg
theorem RowAt.src {base : Nat} (h : RowAt E w base v l) : SrcCells w v l.length (E.row l) := Win.src h
theorem one_src {g c : Nat} {x : α} (hb : ∀ o, w.cell? ⟨g, o, none⟩ = (E.cells x)[o]?) : SrcCells w (.slice (some ⟨g, 0, none⟩) 1 c) [x].length (E.row [x]) := .inr ⟨_, _, rfl, fun j u hu => by
  have : E.row [x] = E.cells x := by rw [Enc.row, Enc.row, List.append_nil]
  rw [this] at hu
  rw [← hu, ← hb j]
  by_cases hj : j = 0
  · subst hj; rfl
  · simp [Addr.add, hj]⟩
theorem RowAt.res {base : Nat} (h : RowAt E w base v l) : (rowR E v l).p (Own v) w := ⟨fun k => Iff.rfl, Win.mono h (Nat.zero_le _)⟩
/-- a row that is new, among the things of memory -/
theorem Mem.newRow {F : Nat → Prop} {w0 : World} {L : List Res} (h : Mem F w0 W L) (e : Ext W w) (hr : RowAt E w W.heap.size v l) : Mem F w0 w (rowR E v l :: L) :=
  h.new (r := rowR E v l) (G := Own v) e hr.res fun k hk => (Win.block hr k hk).1
theorem Upd.row {w0 : World} (h : Upd NoB w0 w (rowR E v l)) : RowAt E w w0.heap.size v l ∧ Ext w0 w := by
  obtain ⟨F', ⟨h1, h2⟩, h3, h4⟩ := h
  refine ⟨?_, h3⟩
  obtain ⟨h0, h5 | ⟨g, o, cap, a1, a2, a3⟩⟩ := h2
  · exact ⟨h0, .inl h5⟩
  · refine ⟨h0, .inr ⟨g, o, cap, a1, ?_, a3⟩⟩
    rcases h4 g ((h1 g).2 (by rw [a1]; rfl)) with h | h
    · exact (noB _ h).elim
    · exact h
/-- an append onto a thing of memory, in a region: what turned was made since W -/
theorem Mem.rowUp {F : Nat → Prop} {w0 : World} {L : List Res} {r : Res} (t tx ty e : TypeId) (i : TypeInfo) (z : Value) (bytes : Nat) (ht : P.underlying t = some (.slice e)) (htx : P.underlying tx = some (.slice e)) (hi : P.info? e = some i) (hz : i.zero = some z)
    (hsize : i.size = E.sz) (hby : i.bytes = bytes) (hzs : z.cells.size = E.sz) (h : Mem F w0 w (r :: L)) (hrow : ∀ A, r.p A w → RowAt E w 0 v l ∧ ∀ k, Own v k → A k) (hE : Ext W w) (hn : ∀ k, Own v k → W.heap.size ≤ k) (x : Value) (l' : List α) (hs : SrcCells w x l'.length (E.row l'))
    (h63 : l.length + l'.length ≤ maxLen) (hbytes : (l.length + l'.length) * bytes ≤ 140737488355328) :
    ∃ v' w', (Builtin.append_ #[t, tx] ty #[v, x]).run P w = .ok v' w' ∧ Mem F w0 w' (rowR E v' (l ++ l') :: L) ∧ Ext W w' ∧ ∀ k, Own v' k → W.heap.size ≤ k := by
  obtain ⟨A, hA, hS⟩ := h.step
  obtain ⟨hw, hO⟩ := hrow A hA
  obtain ⟨v', w', hr, hw', hk, ho⟩ := run_append_win w 0 t tx ty e i z E.sz bytes ht hi hz hsize hby hzs v l.length (E.row l) hw x l'.length (E.row l') (hs.toSrc htx (E.row_len l') (E.row_one l')) h63 hbytes (Nat.zero_le _)
  have hk' : Keeps (Own v) w w' := hk
  refine ⟨v', w', hr, hS _ _ ⟨Own v', ⟨fun k => Iff.rfl, ?_⟩, hk'.mono fun k _ h => hO k h, fun k hk => ?_⟩, hE.then hk' fun k hk h => ?_, fun k hk => ?_⟩
  · show Win w' 0 E.sz v' (l ++ l').length (E.row (l ++ l'))
    rw [E.row_append, List.length_append]
    exact hw'
  · rcases ho with h1 | h1
    · exact .inl (hO k (by unfold Own at hk ⊢; rw [← h1]; exact hk))
    · refine .inr ?_
      have hk : v'.ownBlock = some k := hk
      rw [h1] at hk
      have := Option.some.inj hk; omega
  · have := hn k h; omega
  · rcases ho with h1 | h1
    · exact hn k (by unfold Own at hk ⊢; rw [← h1]; exact hk)
    · have hk : v'.ownBlock = some k := hk
      rw [h1] at hk
      have := Option.some.inj hk
      have := hE.size
      omega
theorem row_of_empty {g : Nat} {t : TypeId} {A : Nat → Prop} (h : (cellsR g t []).p A w) : RowAt E w 0 (.slice (some ⟨g, 0, none⟩) 0 0) [] ∧ ∀ k, Own (.slice (some ⟨g, 0, none⟩) 0 0) k → A k :=
  ⟨Win.empty (Nat.zero_le _) h.2.lt, fun k hk => (h.1 k).2 (Option.some.inj (show some g = some k from hk)).symm⟩
theorem row_of_row {A : Nat → Prop} (h : (rowR E v l).p A w) : RowAt E w 0 v l ∧ ∀ k, Own v k → A k := ⟨h.2, fun k hk => (h.1 k).2 hk⟩
theorem own_at {g n c : Nat} {o : Nat} {B : Nat} (h : B ≤ g) : ∀ k, Own (.slice (some ⟨g, o, none⟩) n c) k → B ≤ k := fun k hk => by
  have : some g = some k := hk
  cases this; exact h
theorem RowAt.keeps {base : Nat} {S : Nat → Prop} {w' : World} (h : RowAt E w base v l) (hk : Keeps S w w') (hs : ∀ k, Own v k → ¬ S k) : RowAt E w' base v l := Win.keeps h hk hs
end
section
variable {P : Program} {ops : Array Oper} {o : Oper} {a : Act} {w' w0 wr : World} {Q : Exit → Act → World → Prop} {F : Nat → Prop} {L : List Res} {K : Act → World → Prop}
/-- in a region that draws its order: the world that an operation meets, named -/
theorem Mem.oper (h : Mem F w0 w' L) (h2 : Ext wr w') (k : ∀ w, Mem F w0 w L → Ext wr w → Oper.wp P o a w K Q) : Oper.wp P o a w' K Q := k _ h h2
theorem Mem.listE {l : List Oper} (h : Mem F w0 w' L) (h2 : Ext wr w') (k : ∀ w, Mem F w0 w L → Ext wr w → wpList P ops Q l a w) : wpList P ops Q l a w' := k _ h h2
end
end Go.Proofs.YtcfgnbbiljohjaaGreatDoor
end
section
/- Steps of a walk over 'Mem' whose side conditions Lean's instances find: which world is reached, which block lies there, what blocks read. No program is named here. -/
set_option linter.unusedVariables false
set_option linter.unusedSimpArgs false
namespace Go.Proofs.YtcfgnbbiljohjaaGreatDoor
open Go.RowKit
class Sz (w : World) (n : outParam Nat) : Prop where
  out : w.heap.size = n
instance (priority := low) szB (w : World) : Sz w w.heap.size := ⟨rfl⟩
instance szA (w : World) (o : Obj) (n : Nat) [h : Sz w n] : Sz (w.alloc o) (n + 1) := ⟨by rw [World.size_alloc, h.out]⟩
instance szS (w : World) (a : Addr) (v : Value) (n : Nat) [h : Sz w n] : Sz (w.setCell a v) n := ⟨by rw [World.size_setCell, h.out]⟩
instance szD (w : World) (n : Nat) [h : Sz w n] : Sz w.drew n := ⟨h.out⟩
class St' (cs : List Value) (o : Nat) (v : Value) (cs' : outParam (List Value)) : Prop where
  out : cs.set o v = cs'
instance (priority := low) stB (cs : List Value) (o : Nat) (v : Value) : St' cs o v (cs.set o v) := ⟨rfl⟩
instance st0 (a : Value) (l : List Value) (v : Value) : St' (a :: l) 0 v (v :: l) := ⟨rfl⟩
instance stS (a : Value) (l l' : List Value) (n : Nat) (v : Value) [h : St' l n v l'] : St' (a :: l) (n + 1) v (a :: l') := ⟨by rw [List.set_cons_succ, h.out]⟩
/-- the block b among some things -/
class PkB (L : List Res) (b : Nat) (t : outParam TypeId) (cs : outParam (List Value)) (L' : outParam (List Res)) : Prop where
  out : Pick L (cellsR b t cs) L'
instance (priority := high) pkb0 (b : Nat) (t : TypeId) (cs : List Value) (L : List Res) : PkB (cellsR b t cs :: L) b t cs L := ⟨.here⟩
instance pkbS (x : Res) (L L' : List Res) (b : Nat) (t : TypeId) (cs : List Value) [h : PkB L b t cs L'] : PkB (x :: L) b t cs (x :: L') := ⟨.there h.out⟩
/-- a thing among some -/
class Pk (L : List Res) (r : Res) (L' : outParam (List Res)) : Prop where
  out : Pick L r L'
instance (priority := high) pk0 (r : Res) (L : List Res) : Pk (r :: L) r L := ⟨.here⟩
instance pkS (x r : Res) (L L' : List Res) [h : Pk L r L'] : Pk (x :: L) r (x :: L') := ⟨.there h.out⟩
theorem pk {L L' : List Res} {r : Res} [h : Pk L r L'] : Pick L r L' := h.out
/-- what some things come to on the way from one world to another -/
class Wo (w : World) (L : List Res) (w' : World) (L' : outParam (List Res)) : Prop where
  out : ∀ F w0, Mem F w0 w L → Mem F w0 w' L'
instance (priority := high) wo0 (w : World) (L : List Res) : Wo w L w L := ⟨fun _ _ h => h⟩
instance woD (w : World) (L : List Res) (w' : World) (L' : List Res) [h : Wo w L w' L'] : Wo w L w'.drew L' := ⟨fun _ _ m => (h.out _ _ m).drew⟩
instance woA (w : World) (L : List Res) (w' : World) (L' : List Res) (cs : List Value) (t : TypeId) (n : Nat) [h : Wo w L w' L'] [s : Sz w' n] : Wo w L (w'.alloc (.cells cs.toArray t)) (cellsR n t cs :: L') := ⟨fun _ _ m => (h.out _ _ m).alloc s.out⟩
instance (priority := low) woO (w : World) (L : List Res) (w' : World) (L' : List Res) (o : Obj) [h : Wo w L w' L'] : Wo w L (w'.alloc o) L' := ⟨fun _ _ m => (h.out _ _ m).allocO⟩
instance woS (w : World) (L : List Res) (w' : World) (L1 L2 : List Res) (b o : Nat) (v : Value) (t : TypeId) (cs cs' : List Value) [h : Wo w L w' L1] [p : PkB L1 b t cs L2] [s : St' cs o v cs'] : Wo w L (w'.setCell ⟨b, o, none⟩ v) (cellsR b t cs' :: L2) :=
  ⟨fun _ _ m => by rw [← s.out]; exact (h.out _ _ m).set p.out⟩
/-- what the blocks of some things read -/
class Ap (b : Nat) (L : List Res) (p : outParam Prop) : Prop where
  out : ∀ w G, SepL L G w → ¬ G b → p
instance ap0 (b : Nat) : Ap b [] True := ⟨fun _ _ _ _ => trivial⟩
instance apC (b c : Nat) (t : TypeId) (cs : List Value) (L : List Res) (p : Prop) [h : Ap b L p] : Ap b (cellsR c t cs :: L) (¬ b = c ∧ ¬ c = b ∧ p) :=
  ⟨fun w G ⟨A, B, h1, h2, h3, h4⟩ hG => ⟨fun e => hG ((h4 b).2 (.inl ((h1.1 b).2 e))), fun e => hG ((h4 b).2 (.inl ((h1.1 b).2 e.symm))), h.out w B h2 fun hB => hG ((h4 b).2 (.inr hB))⟩⟩
instance (priority := low) apR (b : Nat) (r : Res) (L : List Res) (p : Prop) [h : Ap b L p] : Ap b (r :: L) p :=
  ⟨fun w G ⟨A, B, h1, h2, h3, h4⟩ hG => h.out w B h2 fun hB => hG ((h4 b).2 (.inr hB))⟩
class Fa (w : World) (L : List Res) (p : outParam Prop) : Prop where
  out : ∀ G, SepL L G w → p
instance fa0 (w : World) : Fa w [] True := ⟨fun _ _ => trivial⟩
instance faC (w : World) (b : Nat) (t : TypeId) (cs : List Value) (L : List Res) (q p : Prop) [h : Ap b L q] [g : Fa w L p] :
    Fa w (cellsR b t cs :: L) ((∀ o, w.cell? ⟨b, o, none⟩ = cs[o]?) ∧ (∀ o, w.frozen? ⟨b, o, none⟩ = false) ∧ b < w.heap.size ∧ q ∧ p) :=
  ⟨fun G ⟨A, B, h1, h2, h3, h4⟩ => ⟨h1.2.reads.1, h1.2.reads.2, h1.2.lt, h.out w B h2 (h3 b ((h1.1 b).2 rfl)), g.out B h2⟩⟩
instance (priority := low) faR (w : World) (r : Res) (L : List Res) (p : Prop) [g : Fa w L p] : Fa w (r :: L) p := ⟨fun G ⟨A, B, h1, h2, h3, h4⟩ => g.out B h2⟩
/-- a goal at a world -/
class Gl (p : Prop) (G : outParam (World → Prop)) (w : outParam World) : Prop where
  out : G w → p
instance gl1 (P : Program) (f : FuncId) (args : Array Value) (K : Ending → World → Prop) (w : World) : Gl (Calls P f args w K) (fun w => Calls P f args w K) w := ⟨id⟩
instance gl2 (P : Program) (ops : Array Oper) (Q : Exit → Act → World → Prop) (l : List Oper) (a : Act) (w : World) : Gl (Stopped (wpList P ops Q l a w)) (fun w => Stopped (wpList P ops Q l a w)) w := ⟨id⟩
instance gl3 (P : Program) (ops : Array Oper) (Q : Exit → Act → World → Prop) (l : List Oper) (a : Act) (w : World) : Gl (wpList P ops Q l a w) (fun w => wpList P ops Q l a w) w := ⟨id⟩
instance gl4 (P : Program) (c : Code) (Q : Exit → Act → World → Prop) (a : Act) (w : World) : Gl (c.wp P Q a w) (fun w => c.wp P Q a w) w := ⟨id⟩
instance gl5 (P : Program) (fn : Func) (R : Ending → World → Prop) (e : Exit) (a : Act) (w : World) : Gl (bodyPostD P fn R e a w) (fun w => bodyPostD P fn R e a w) w := ⟨id⟩
instance gl6 (P : Program) (fn : Func) (R : Ending → World → Prop) (e : Exit) (a : Act) (w : World) : Gl (bodyPost P fn R e a w) (fun w => bodyPost P fn R e a w) w := ⟨id⟩
instance gl7 (F : Nat → Prop) (w0 : World) (r : Res) (w : World) : Gl (Upd F w0 w r) (fun w => Upd F w0 w r) w := ⟨id⟩
instance gl8 (P : Program) (c : Code) (Q : Exit → Act → World → Prop) (n : Nat) (a : Act) (w : World) : Gl (Code.rounds P c Q n a w) (fun w => Code.rounds P c Q n a w) w := ⟨id⟩
section
variable {F : Nat → Prop} {w0 w w' w1 : World} {L L' L1 L2 : List Res} {p : Prop}
theorem Mem.to (m : Mem F w0 w L) [h : Wo w L w' L'] : Mem F w0 w' L' := h.out _ _ m
theorem Mem.fa (m : Mem F w0 w L) [h : Fa w L p] : p := let ⟨_, G, s, _⟩ := m; h.out G s
theorem nxt {G : World → Prop} [g : Gl p G w'] (m : Hid (Mem F w0 w L)) [h : Wo w L w' L'] (k : ∀ w, Hid (Mem F w0 w L') → G w) : p := g.out (k _ (Lib.hid m.out.to))
end
/-- a block of many cells -/
class Wd (n : Nat) (cs : List Value) : Prop where
  len : cs.length = n
  one : ∀ u ∈ cs, u.oneCell' = true
class One (v : Value) : Prop where
  out : v.oneCell' = true
instance oneI (k : IntKind) (n : Int) : One (.int k n) := ⟨rfl⟩
instance oneB (b : Bool) : One (.bool b) := ⟨rfl⟩
instance oneT (s : ByteArray) : One (.string s) := ⟨rfl⟩
instance oneP (a : Option Addr) : One (.pointer a) := ⟨rfl⟩
instance oneL (a : Option Addr) (n c : Nat) : One (.slice a n c) := ⟨rfl⟩
instance oneM (m : Option Nat) : One (.map m) := ⟨rfl⟩
instance wdS (n : Nat) (cs : List Value) (i : Nat) (v : Value) [h : Wd n cs] [g : One v] : Wd n (cs.set i v) := ⟨by rw [List.length_set, h.len], one_set h.one g.out i⟩
section
variable {P : Program} {ops : Array Oper} {rest : List Oper} {o : Oper} {a : Act} {w w0 w1 : World} {Q : Exit → Act → World → Prop} {F : Nat → Prop} {L L1 L2 : List Res} {d : TypeDesc} {b n : Nat} {t : TypeId} {cs vs : List Value}
theorem lvW (ty : TypeId) (m : Mem F w0 w1 L) [Wo w1 L w L1] [p : PkB L1 b t cs L2] (hu : P.underlying ty = some d) (hd : (match d with | .struct _ | .array _ _ => true | _ => false) = true) (hi : (P.info? ty).map (·.size) = some n) [q : Wd n cs] :
    (loadVar ty ⟨b, 0, none⟩).run P w = .ok (.agg cs.toArray) w := loadVar_wide ty (m.to (w' := w)) p.out hu hd (hi.trans (congrArg some q.len.symm))
theorem elW (ty : TypeId) (x : Operand) (ho : o.op = .load ty x) (hx : a.eval x = .pointer (some ⟨b, 0, none⟩)) (m : Mem F w0 w1 L) [Wo w1 L w L1] [p : PkB L1 b t cs L2] (hu : P.underlying ty = some d) (hd : (match d with | .struct _ | .array _ _ => true | _ => false) = true) (hi : (P.info? ty).map (·.size) = some n) [q : Wd n cs] :
    (execOp a.eval o).run P w = .ok (.value (.agg cs.toArray)) w := by
  have := lvW (w := w) (b := b) (t := t) (cs := cs) (L1 := L1) (L2 := L2) ty m hu hd hi
  simp [execOp, ho, hx, Instr.loadAt, Instr.sureAddr, Sem.run_bind, Result.andThen, this]
theorem ldW (ty : TypeId) (x : Operand) (ho : o.op = .load ty x) (hw : Region.wanted o (yielded ops a.tmps) = true) (hx : a.eval x = .pointer (some ⟨b, 0, none⟩)) (m : Mem F w0 w1 L) [Wo w1 L w L1] [p : PkB L1 b t cs L2] (hu : P.underlying ty = some d)
    (hd : (match d with | .struct _ | .array _ _ => true | _ => false) = true) (hi : (P.info? ty).map (·.size) = some n) [q : Wd n cs] (k : wpList P ops Q rest (a.put o.dst (.agg cs.toArray)) w) : wpList P ops Q (o :: rest) a w := by
  have h2 := elW (w := w) ty x ho hx m hu hd hi
  unfold wpList
  rw [if_pos hw]
  refine .inl ?_
  unfold Oper.wp
  rw [h2]
  exact k
theorem stW (ty : TypeId) (x y : Operand) (ho : o.op = .store ty x y) (hg : o.guard = none) (hx : a.eval x = .pointer (some ⟨b, 0, none⟩)) (hy : a.eval y = .agg vs.toArray) (m : Mem F w0 w1 L) [Wo w1 L w L1] [p : PkB L1 b t cs L2] (hi : (P.info? ty).map (·.size) = some n)
    [q : Wd n cs] [g : Wd n vs] (k : ∀ w', Mem F w0 w' (cellsR b t vs :: L2) → wpList P ops Q rest (a.put o.dst undef) w') : wpList P ops Q (o :: rest) a w :=
  mem_store_wide ty x y ho hg hx hy (m.to (w' := w)) p.out hi g.len q.len g.one k
theorem boW (ty : TypeId) (x : Operand) (ho : o.op = .box ty x) (hg : o.guard = none) (hx : a.eval x = .agg vs.toArray) (m : Mem F w0 w1 L) [Wo w1 L w L1]
    (k : ∀ w' n, Mem F w0 w' (cellsR n ty vs :: L1) → wpList P ops Q rest (a.put o.dst (.pointer (some ⟨n, 0, none⟩))) w') : wpList P ops Q (o :: rest) a w := mem_box_wide ty x ho hg hx (m.to (w' := w)) k
theorem alW (ty : TypeId) (ho : o.op = .alloc ty) (hg : o.guard = none) (hz : (zeroValue ty).run P w = .ok (.agg vs.toArray) w) (m : Mem F w0 w1 L) [Wo w1 L w L1]
    (k : ∀ w' n, Mem F w0 w' (cellsR n ty vs :: L1) → wpList P ops Q rest (a.put o.dst (.pointer (some ⟨n, 0, none⟩))) w') : wpList P ops Q (o :: rest) a w := mem_alloc_wide ty ho hg hz (m.to (w' := w)) k
theorem oaW {wr : World} {K : Act → World → Prop} (ty : TypeId) (ho : o.op = .alloc ty) (hz : (zeroValue ty).run P w = .ok (.agg vs.toArray) w) (m : Mem F w0 w1 L) [Wo w1 L w L1] (he : Ext wr w)
    (k : ∀ w' n, Mem F w0 w' (cellsR n ty vs :: L1) → Ext wr w' → K (a.put o.dst (.pointer (some ⟨n, 0, none⟩))) w') : Oper.wp P o a w K Q := by
  have hb := Box.new w ty vs
  have he' : Ext w (w.alloc (.cells vs.toArray ty)) := (Keeps.refl _ _).alloc _
  unfold Oper.wp
  have : (execOp a.eval o).run P w = .ok (.value (.pointer (some ⟨w.heap.size, 0, none⟩))) (w.alloc (.cells vs.toArray ty)) := by simp [execOp, ho, Instr.alloc, hz, newVar, newRow, Value.cells, Result.andThen]
  rw [this]
  exact k _ _ ((m.to (w' := w)).new (G := fun k => k = w.heap.size) he' ⟨fun k => Iff.rfl, hb⟩ (fun k hk => by omega)) (he.ext he')
theorem rtW {fn : Func} {r s : Nat} (ty : TypeId) (hr : fn.results = #[.cell r ty, .tmp s]) (tmps : Array Value) (h0 : tmps.getD r undef = .pointer (some ⟨b, 0, none⟩)) (m : Mem F w0 w1 L) [Wo w1 L w L1] [p : PkB L1 b t cs L2] (hu : P.underlying ty = some d)
    (hd : (match d with | .struct _ | .array _ _ => true | _ => false) = true) (hi : (P.info? ty).map (·.size) = some n) [q : Wd n cs] : (results fn tmps).run P w = .ok (.tuple #[.agg cs.toArray, tmps.getD s undef]) w :=
  results_ct hr tmps h0 (lvW ty m hu hd hi)
variable {C : World → Prop} {tail : Act → World → Prop} {r : List (Nat × Oper)} {v : Value}
theorem pM (x : Operand) (hw : Region.wanted o (yielded ops a.tmps) = true) (h : o.op = .move x) (k : Pl P ops Q C tail r (a.put o.dst (a.eval x)) w) : Pl P ops Q C tail ((0, o) :: r) a w := plan_pure hw fun K hK => quiet_move' x h (hK _ k)
theorem pA (x : Operand) (hw : Region.wanted o (yielded ops a.tmps) = true) (h : o.op = .assign x) (k : Pl P ops Q C tail r (a.put o.dst (a.eval x)) w) : Pl P ops Q C tail ((0, o) :: r) a w := plan_pure hw fun K hK => quiet_assign' x h (hK _ k)
theorem pR (hw : Region.wanted o (yielded ops a.tmps) = true) (h : ∀ w, (execOp a.eval o).run P w = .ok (.value v) w) (k : Pl P ops Q C tail r (a.put o.dst v) w) : Pl P ops Q C tail ((0, o) :: r) a w := plan_pure hw fun K hK => quiet_run v (fun w _ => h w) (hK _ k)
theorem pX (hw : Region.wanted o (yielded ops a.tmps) = true) (h : (execOp a.eval o).run P w = .ok (.value v) w) (k : Pl P ops Q C tail r (a.put o.dst v) w) : Pl P ops Q C tail ((3, o) :: r) a w := plan_exact hw fun K hK => quiet_runX v h (hK _ k)
theorem pL {wr : World} (hw : Region.wanted o (yielded ops a.tmps) = true) (h : ∀ y : ExtW wr, (execOp a.eval o).run P y.w = .ok (.value v) y.w) (k : Pl P ops Q (ClsE wr) tail r (a.put o.dst v) w) : Pl P ops Q (ClsE wr) tail ((1, o) :: r) a w := plan_load hw fun K hK => quiet_runE v h (hK _ k)
theorem pK {wr : World} {S : Nat → Prop} (hw : Region.wanted o (yielded ops a.tmps) = true) (h : ∀ y : KeepsW S wr, (execOp a.eval o).run P y.w = .ok (.value v) y.w) (k : Pl P ops Q (ClsK S wr) tail r (a.put o.dst v) w) : Pl P ops Q (ClsK S wr) tail ((1, o) :: r) a w := plan_load hw fun K hK => quiet_runK v h (hK _ k)
theorem pXW (ty : TypeId) (x : Operand) (hw : Region.wanted o (yielded ops a.tmps) = true) (ho : o.op = .load ty x) (hx : a.eval x = .pointer (some ⟨b, 0, none⟩)) (m : Mem F w0 w1 L) [Wo w1 L w L1] [p : PkB L1 b t cs L2] (hu : P.underlying ty = some d)
    (hd : (match d with | .struct _ | .array _ _ => true | _ => false) = true) (hi : (P.info? ty).map (·.size) = some n) [q : Wd n cs] (k : Pl P ops Q C tail r (a.put o.dst (.agg cs.toArray)) w) : Pl P ops Q C tail ((3, o) :: r) a w := pX hw (elW ty x ho hx m hu hd hi) k
theorem pLW {wr : World} (ty : TypeId) (x : Operand) (hw : Region.wanted o (yielded ops a.tmps) = true) (ho : o.op = .load ty x) (hx : a.eval x = .pointer (some ⟨b, 0, none⟩)) (m : Mem F w0 wr L) [p : PkB L b t cs L2] (hu : P.underlying ty = some d)
    (hd : (match d with | .struct _ | .array _ _ => true | _ => false) = true) (hi : (P.info? ty).map (·.size) = some n) [q : Wd n cs] (k : Pl P ops Q (ClsE wr) tail r (a.put o.dst (.agg cs.toArray)) w) : Pl P ops Q (ClsE wr) tail ((1, o) :: r) a w :=
  pL hw (fun y => elW ty x ho hx (m.ext y.h) hu hd hi) k
end
/-- a region's operations by number, as rules -/
theorem nL : (∀ (l : List Oper) (i : Nat), l.toArray[i]? = l[i]?) ∧ (∀ (a : Oper) (l : List Oper), (a :: l)[0]? = some a) ∧ (∀ (a : Oper) (l : List Oper) (n : Nat), (a :: l)[n + 1]? = l[n]?) := ⟨fun _ _ => by simp, fun _ _ => rfl, fun _ _ _ => rfl⟩
end Go.Proofs.YtcfgnbbiljohjaaGreatDoor
end
section
/- Equality of rows and structs of many cells; loads of a part of a block. No program is named here. -/
set_option linter.unusedVariables false
set_option linter.unusedSimpArgs false
namespace Go.Proofs.YtcfgnbbiljohjaaGreatDoor
open Go.RowKit
section
variable {P : Program} {w : World}
/-- a part of many cells -/
theorem part_agg {e : TypeId} {k : TypeDesc} {n off : Nat} {cs : List Value} (hu : P.underlying e = some k) (hk : (match k with | .struct _ | .array _ _ => true | _ => false) = true) (hn : P.cellsOf e = n) (W : World) :
    (part e cs.toArray off).run P W = .ok (.agg ((cs.drop off).take n).toArray) W := by
  obtain ⟨i, hi⟩ := info_of_underlying hu
  have hl : cs.toArray.extract off (off + n) = ((cs.drop off).take n).toArray := by
    apply Array.ext'
    rw [Array.toList_extract]
    simp [List.extract]
  cases k <;> simp_all [part, isAgg, run_underlying hu, run_sizeOf W hi]
theorem items_all {e : TypeId} {d c : Nat} {xs ys : Array Value} (r : Nat → Bool) : ∀ (is : List Nat), (∀ i ∈ is, ∃ a b, (part e xs (i * c)).run P w = .ok a w ∧ (part e ys (i * c)).run P w = .ok b w ∧ (Op.equalIn d e a b).run P w = .ok (r i) w) →
    (Op.eqItems d e c xs ys is).run P w = .ok (is.all r) w
  | [], _ => by simp [Op.eqItems]
  | i :: is, h => by
    obtain ⟨a, b, h1, h2, h3⟩ := h i (by simp)
    have ih := items_all r is (fun j hj => h j (by simp [hj]))
    simp only [Op.eqItems, Sem.run_bind, h1, h2, h3, Result.andThen_ok, List.all_cons]
    cases r i
    · simp
    · simpa using ih
theorem all_range {α : Type} [DecidableEq α] (l m : List α) (n : Nat) (hl : l.length = n) (hm : m.length = n) : (List.range n).all (fun i => decide (l[i]? = m[i]?)) = decide (l = m) := by
  rw [Bool.eq_iff_iff]
  simp only [List.all_eq_true, List.mem_range, decide_eq_true_eq]
  constructor
  · intro h
    apply List.ext_getElem?
    intro i
    by_cases hi : i < n
    · exact h i hi
    · rw [List.getElem?_eq_none (by omega), List.getElem?_eq_none (by omega)]
  · rintro rfl i _; rfl
/-- rows of numbers -/
theorem equal_ints {d : Nat} {t e : TypeId} {n : Nat} (l m : List Int) (hu : P.underlying t = some (.array n e)) (he : P.underlying e = some (.int .i64)) (hn : P.cellsOf e = 1) (hl : l.length = n) (hm : m.length = n) (W : World) :
    (Op.equalIn (d + 2) t (.agg (l.map fun x => Value.int .i64 x).toArray) (.agg (m.map fun x => Value.int .i64 x).toArray)).run P W = .ok (decide (l = m)) W := by
  obtain ⟨i, hi⟩ := info_of_underlying he
  rw [show d + 2 = (d + 1) + 1 from rfl, run_equalIn_array W (d + 1) _ _ hu hi, hn, items_all (fun i => decide (l[i]? = m[i]?)), all_range l m n hl hm]
  intro j hj
  have hj' : j < n := List.mem_range.1 hj
  have hp : P.plainKey e = true := by simp [Program.plainKey, he]
  refine ⟨.int .i64 (l[j]'(by omega)), .int .i64 (m[j]'(by omega)), ?_, ?_, ?_⟩
  · rw [Nat.mul_one]; exact run_part_plain W hp (by simp [List.getElem?_eq_getElem (show j < l.length by omega)])
  · rw [Nat.mul_one]; exact run_part_plain W hp (by simp [List.getElem?_eq_getElem (show j < m.length by omega)])
  · rw [run_equalIn_int W d e .i64 .i64 _ _ he, List.getElem?_eq_getElem (by omega), List.getElem?_eq_getElem (by omega)]
    congr 1
    rw [Bool.eq_iff_iff]; simp
/-- rows of things that have an encoding -/
theorem equal_rows {α : Type} [DecidableEq α] {d : Nat} {t e : TypeId} {k : TypeDesc} {n sz : Nat} (f : α → List Value) (hf : ∀ x, (f x).length = sz) (l m : List α) (hu : P.underlying t = some (.array n e)) (he : P.underlying e = some k) (hk : (match k with | .struct _ | .array _ _ => true | _ => false) = true) (hn : P.cellsOf e = sz)
    (hl : l.length = n) (hm : m.length = n) (W : World) (heq : ∀ x y, (Op.equalIn d e (.agg (f x).toArray) (.agg (f y).toArray)).run P W = .ok (decide (x = y)) W) :
    (Op.equalIn (d + 1) t (.agg (l.map f).flatten.toArray) (.agg (m.map f).flatten.toArray)).run P W = .ok (decide (l = m)) W := by
  obtain ⟨i, hi⟩ := info_of_underlying he
  rw [run_equalIn_array W d _ _ hu hi, hn, items_all (fun i => decide (l[i]? = m[i]?)), all_range l m n hl hm]
  have chunk : ∀ (q : List α) (j : Nat) (hj : j < q.length), ((q.map f).flatten.drop (j * sz)).take sz = f q[j] := by
    intro q
    induction q with
    | nil => intro j hj; simp at hj
    | cons x q ih =>
      intro j hj
      cases j with
      | zero => simp [hf x, List.take_append_of_le_length]
      | succ j =>
        rw [List.map_cons, List.flatten_cons, show (j + 1) * sz = (f x).length + j * sz by rw [hf x, Nat.add_mul]; omega, List.drop_append]
        rw [List.drop_eq_nil_of_le (by omega), List.nil_append, show (f x).length + j * sz - (f x).length = j * sz by omega]
        exact ih j (by simpa using hj)
  intro j hj
  have hj' : j < n := List.mem_range.1 hj
  refine ⟨_, _, part_agg he hk hn W, part_agg he hk hn W, ?_⟩
  rw [chunk l j (by omega), chunk m j (by omega), heq, List.getElem?_eq_getElem (by omega), List.getElem?_eq_getElem (by omega)]
  congr 1
  rw [Bool.eq_iff_iff]; simp
theorem eql_of {t : TypeId} {xs ys : Array Value} {b : Bool} (h : (Op.equalIn 10000 t (.agg xs) (.agg ys)).run P w = .ok b w) : (binOp .eql t (.agg xs) (.agg ys)).run P w = .ok (.bool b) w := by
  rw [run_eql_struct, h]; rfl
theorem neq_of {t : TypeId} {xs ys : Array Value} {b : Bool} (h : (Op.equalIn 10000 t (.agg xs) (.agg ys)).run P w = .ok b w) : (binOp .neq t (.agg xs) (.agg ys)).run P w = .ok (.bool (!b)) w := by
  rw [run_neq_struct, h]; rfl
/-- a load of a part of a block known whole -/
theorem load_mid {b o : Nat} {t ty : TypeId} {cs part : List Value} {d : TypeDesc} {n : Nat} (hb : Box w b t cs) (hp : (cs.drop o).take n = part) (hlen : part.length = n) (hu : P.underlying ty = some d) (hd : d.isRow = true) (hi : (P.info? ty).map (·.size) = some n) :
    (Instr.loadAt ty (.pointer (some ⟨b, o, none⟩))).run P w = .ok (.agg part.toArray) w :=
  run_loadAt_mid w b o ty part d (fun j v hv => by
    rw [hb.reads.1]
    have h9 : ((cs.drop o).take n)[j]? = some v := by rw [hp]; exact hv
    rw [List.getElem?_take] at h9
    split at h9
    · rw [List.getElem?_drop] at h9; exact h9
    · cases h9) hu hd (by rw [hlen]; exact hi)
end
end Go.Proofs.YtcfgnbbiljohjaaGreatDoor
end
section
/- Bytes as elements: their row of the table, and append of so many zeros. No program's function is named here. -/
set_option linter.unusedVariables false
set_option linter.unusedSimpArgs false
set_option maxHeartbeats 400000
namespace Go.Proofs.YtcfgnbbiljohjaaGreatDoor
open Go.RowKit

theorem infoU8 : (Tryz.prog.info? 5).map (fun i => (i.zero, i.size, i.bytes)) = some (some (.int .u8 0), 1, 1) := by kernel_rfl

/-- append(nil, make([]byte, n)...) -/
theorem run_append_zeros {P : Program} (w : World) (t ti ty e : TypeId) (i : TypeInfo) (z : Value) (ht : P.underlying t = some (.slice e)) (hti : P.underlying ti = some (.int .i64)) (hi : P.info? e = some i) (hz : i.zero = some z)
    (hsize : i.size = 1) (hzs : z.cells.size = 1) (hby : i.bytes = 1) (n : Nat) (h0 : 0 < n) (hn : n ≤ 70368744177664) :
    ∃ cap w', (Builtin.append_ #[t, ti] ty #[.slice none 0 0, .int .i64 (n : Int)]).run P w = .ok (.slice (some ⟨w.heap.size, 0, none⟩) n cap) w' ∧
      w'.ownsRow w.heap.size e 1 (.slice (some ⟨w.heap.size, 0, none⟩) 0 cap) 0 [] ∧ w.grownBy w' none ∧ 0 < cap := by
  have hw : IntKind.i64.wrap (n : Int) = n := IntWalk.i64_in _ (by omega)
  have n1 : ¬ ((n : Int) < 0) := by omega
  have n2 : ¬ ((n : Int) * 1 > 2 ^ 48) := by omega
  have n2' : ¬ (281474976710656 < (n : Int)) := by omega
  have n3 : ¬ (9223372036854775807 < (n : Int)) := by omega
  have h48' : ¬ (281474976710656 < Builtin.nextslicecap n 0) := by rw [nextslicecap_zero h0]; omega
  have hnz : n ≠ 0 := by omega
  have hge := grownCap_ge w n 0 e
  refine ⟨grownCap w n 0 e, w.drew.alloc (.cells (Builtin.zeroCells z.cells n ++ Builtin.zeroCells z.cells (grownCap w n 0 e - n)) e), ?_, ?_, ⟨rfl, rfl, rfl, by simp, fun k hk _ => Below.heap_alloc w.drew _ k hk⟩, by omega⟩
  · simp [Builtin.append_, run_underlying ht, run_underlying hti, sizeOf, typeInfo, zeroValue, hi, hz, hw, asInt, asIntOf, n1, n2', n3, hby, hsize, h48', hnz, Builtin.firstCells, Question.forced, newRow, grownCap]
  · refine World.ownsRow_made w.drew _ _ (Nat.le_refl _) (grownCap_le_maxLen w n 0 e (by simp [maxLen]; omega)) ?_
    simp [size_zeroCells, hzs]; omega

end Go.Proofs.YtcfgnbbiljohjaaGreatDoor
end
section
/- Conversions between strings and bytes, and make of bytes: what they give. Conditions: the bytes lie as 'Bytes' says. -/
set_option linter.unusedVariables false
set_option linter.unusedSimpArgs false
set_option maxRecDepth 100000
namespace Go.Proofs.YtcfgnbbiljohjaaGreatDoor
open Go.RowKit

theorem Bytes.str {w : World} {A : Nat → Prop} {v : Value} {l : List UInt8} (h : Bytes w A v l) :
    (convert 30 9 v).run Tryz.prog w = .ok (.string (bs l)) w := by
  rcases h with ⟨a, rfl, rfl⟩ | ⟨b, o, c, rfl, h1, h2, h3⟩
  · cases a with
    | some ad => exact run_convert_bytes_back w 30 9 5 ad 0 [] Tryz.underlying30 Tryz.underlying5 Tryz.underlying9 fun j hj => by simp at hj
    | none =>
    rw [run_convert_bytes_string w 30 9 5 none 0 0 Tryz.underlying30 Tryz.underlying5 Tryz.underlying9]
    rfl
  · refine run_convert_bytes_back w 30 9 5 ⟨b, o, none⟩ c l Tryz.underlying30 Tryz.underlying5 Tryz.underlying9 fun j hj => ?_
    have := h3 j hj
    unfold ByteAt byV at this
    by_cases hj0 : j = 0
    · subst hj0; simpa [Addr.add] using this
    · simpa [Addr.add, hj0] using this

theorem conv_bytes (w : World) (l : List UInt8) :
    ∃ v' w', (convert 9 30 (.string (bs l))).run Tryz.prog w = .ok v' w' ∧ Bytes w' (fun k => w.heap.size ≤ k ∧ k < w'.heap.size) v' l ∧ Ext w w' ∧ w'.heap.size = w.heap.size + 1 := by
  have hr := Lib.run_convert_string_bytes (P := Tryz.prog) w 9 30 5 (bs l) (u := .string) Tryz.underlying9 Tryz.underlying30 Tryz.underlying5
  rw [bs_size] at hr
  have hsz := Lib.bytesWorld_size w 5 (bs l)
  refine ⟨_, _, hr, .inr ⟨w.heap.size, 0, _, rfl, by have := grownCap_ge w l.length 0 5; omega, ⟨Nat.le_refl _, by omega⟩, fun i hi => ?_⟩, ⟨?_, ?_, ?_, by omega, fun k hk _ => Lib.bytesWorld_at_old w _ _ k hk⟩, hsz⟩
  · have := Lib.bytesWorld_cell w 5 (bs l) i (by rw [bs_size]; exact hi)
    rw [bs_data] at this
    unfold ByteAt byV
    simpa [List.getD, hi] using this
  all_goals simp [Lib.bytesWorld, World.freeze, World.alloc, World.drew, -World.alloc_eq, -World.drew_eq]

/-- make([]byte, n) -/
theorem make_bytes (w : World) (n : Nat) (hn : n ≤ 70368744177664) (z : Int) (hz : z = n) :
    ∃ w', (Instr.makeSlice 30 (.int .i64 z) (.int .i64 z)).run Tryz.prog w = .ok (.slice (some ⟨w.heap.size, 0, none⟩) n n) w' ∧ Box w' w.heap.size 5 ((List.replicate n (0 : UInt8)).map byV) ∧ Ext w w' ∧ w'.heap.size = w.heap.size + 1 := by
  subst hz
  obtain ⟨i0, hi, hz0, hz1, hz2⟩ := info_parts infoU8
  have h := run_make (P := Tryz.prog) w 30 5 i0 (.int .u8 0) Tryz.underlying30 hi hz0 .i64 .i64 (n : Int) (n : Int) (by omega) (Int.le_refl _) (by rw [hz2]; omega) (by omega)
  simp only [Int.toNat_natCast, hz1] at h
  refine ⟨_, h, ?_, (Keeps.refl _ _).alloc _, by simp⟩
  unfold Box
  rw [World.alloc_heap_new]
  congr 2
  simp only [madeCells, byV, Value.cells, List.size_toArray, List.length_cons, List.length_nil, Nat.mul_one, List.map_replicate]
  apply Array.ext
  · simp
  · intro i h1 h2
    simp [Nat.mod_one]

end Go.Proofs.YtcfgnbbiljohjaaGreatDoor
end
section
/- Bytes in windows: append of bytes, a byte set anew. No program's function is named here. -/
set_option linter.unusedVariables false
set_option linter.unusedSimpArgs false
set_option maxHeartbeats 400000
set_option maxRecDepth 100000
namespace Go.Proofs.YtcfgnbbiljohjaaGreatDoor
open Go.RowKit

/-- append([]byte{}, b...) -/
theorem append_bytes {A : Nat → Prop} (w : World) (base : Nat) (v : Value) (cs : List UInt8) (ty : TypeId) (hw : Win w base 1 v cs.length (cs.map byV)) (x : Value) (l : List UInt8) (hx : Bytes w A x l) (hl : cs.length + l.length ≤ 70368744177664) (hb : base ≤ w.heap.size) :
    ∃ v' w', (Builtin.append_ #[30, 30] ty #[v, x]).run Tryz.prog w = .ok v' w' ∧ Win w' base 1 v' (cs ++ l).length ((cs ++ l).map byV) ∧ Keeps (Own v) w w' ∧ (v'.ownBlock = v.ownBlock ∨ v'.ownBlock = some w.heap.size) := by
  obtain ⟨i0, hi, hz0, hz1, hz2⟩ := info_parts infoU8
  obtain ⟨v', w', h1, h2, h3, h4⟩ := run_append_win (P := Tryz.prog) w base 30 30 ty 5 i0 _ 1 1 Tryz.underlying30 hi hz0 hz1 hz2 rfl v cs.length (cs.map byV) hw
    x l.length (l.map byV) (hx.src.toSrc Tryz.underlying30 (by simp) (byV_one l)) (by simp [maxLen]; omega) (by omega) hb
  exact ⟨v', w', h1, by rw [List.length_append, List.map_append]; exact h2, h3, h4⟩
theorem byV_flat (l : List UInt8) : l.map byV = (l.map fun x => [byV x]).flatten := by
  induction l with
  | nil => rfl
  | cons x l ih => simp [ih]
theorem Bytes.of_win {w : World} {base n : Nat} {v : Value} {l : List UInt8} (h : Win w base 1 v n (l.map byV)) : Bytes w (fun b => base ≤ b ∧ b < w.heap.size) v l := by
  have hn : l.length = n := by have := h.1; simpa using this
  refine SlV.of_win (En := fun c (x : UInt8) => c = [byV x]) h hn.symm ⟨l.map fun x => [byV x], byV_flat l, by simp, fun j hj hj' => by simp⟩ ?_
  intro b o c x hc _ hx
  subst hc
  exact hx 0 (by decide)
/-- its own bytes may be written -/
def WrN (w : World) (v : Value) : Prop := ∀ b o n c, v = .slice (some ⟨b, o, none⟩) n c → ∀ i, i < n → w.frozen? ⟨b, o + i, none⟩ = false
theorem WrN.of_win {w : World} {base n : Nat} {v : Value} {l : List UInt8} (h : Win w base 1 v n (l.map byV)) : WrN w v := by
  rintro b o m c rfl i hi
  obtain ⟨h0, ⟨h, _⟩ | ⟨g', o', cap', h, h1, h2, h3, h4, h5, h6⟩⟩ := h
  · cases h
  · cases h
    exact (h5 i (by omega)).2
theorem WrN.set {w : World} {v : Value} (h : WrN w v) (p : Addr) (u : Value) : WrN (w.setCell p u) v := by
  intro b o n c hv i hi
  have := h b o n c hv i hi
  rw [← this]
  simp [go_sem]
theorem WrN.keeps {w w' : World} {A S : Nat → Prop} {v : Value} {l : List UInt8} (hb : Bytes w A v l) (h : WrN w v) (hk : Keeps S w w') (hA : ∀ k, A k → ¬ S k ∧ k < w.heap.size) : WrN w' v := by
  rintro b o n c rfl i hi
  rcases hb with ⟨a', h1, h2⟩ | ⟨b', o', c', h1, h2, h3, h4⟩
  · cases h1; simp at hi
  · cases h1
    rw [hk.frozen (hA _ h3).1 (hA _ h3).2]
    exact h _ _ _ _ rfl i hi
theorem own_eq {g o n c k : Nat} (h : Own (.slice (some ⟨g, o, none⟩) n c) k) : k = g := by unfold Own at h; cases h; rfl
/-- one element set anew -/
theorem RowOf.set {α : Type} {sz : Nat} {En : List Value → α → Prop} {cs c : List Value} {l : List α} {x : α} (h : RowOf sz En cs l) (hx : En c x) (hc : c.length = sz) (i : Nat) (hi : i < l.length) :
    RowOf sz En (cs.take (i * sz) ++ (c ++ cs.drop ((i + 1) * sz))) (l.set i x) := by
  rw [List.set_eq_take_append_cons_drop, if_pos hi]
  exact RowOf.append (h.take i (by omega)) (RowOf.append (l := [x]) (RowOf.one hx hc) (h.drop (i + 1) (by omega)))
theorem Win.set {w : World} {base sz n cap o g : Nat} {cs c : List Value} (h : Win w base sz (.slice (some ⟨g, o, none⟩) n cap) n cs) (i : Nat) (hi : i < n) (hc : c.length = sz) :
    Win (w.setCells g (o + i * sz) c) base sz (.slice (some ⟨g, o, none⟩) n cap) n (cs.take (i * sz) ++ (c ++ cs.drop ((i + 1) * sz))) := by
  obtain ⟨h0, ⟨h, h'⟩ | ⟨g', o', cap', h, h1, h2, h3, h4, h5, h6⟩⟩ := h
  · omega
  · cases h
    have e1 : (i + 1) * sz = i * sz + sz := by rw [Nat.add_mul]; omega
    have e2 : (i + 1) * sz ≤ n * sz := Nat.mul_le_mul_right _ hi
    have e3 : n * sz ≤ cap * sz := Nat.mul_le_mul_right _ h2
    have hth : w.there g (o + i * sz) c.length := fun j hj => by
      have := h5 (i * sz + j) (by omega)
      rwa [← Nat.add_assoc] at this
    have hlt : (cs.take (i * sz)).length = i * sz := by rw [List.length_take]; omega
    refine ⟨by simp only [List.length_append, hlt, List.length_drop]; omega, .inr ⟨g, o, cap, rfl, h1, h2, h3, by rw [(heap_block_setCells g c _ w).1]; exact h4, World.there_setCells h5 _ _ _, ?_⟩⟩
    refine rangeAt_append ?_ (rangeAt_append ?_ ?_)
    · refine World.rangeAt_setCells_apart (fun j u hu => h6 j u ?_) g _ c (.inr (.inl (by rw [hlt]; omega)))
      rw [List.getElem?_take] at hu
      split at hu
      · exact hu
      · cases hu
    · rw [hlt]; exact World.rangeAt_setCells_same w g _ c hth
    · rw [hlt, hc]
      refine World.rangeAt_setCells_apart (fun j u hu => ?_) g _ c (.inr (.inr (by omega)))
      rw [List.getElem?_drop] at hu
      have := h6 _ u hu
      rwa [show o + i * sz + sz + j = o + ((i + 1) * sz + j) by omega]

/-- a byte set anew -/
theorem Win.bump {w : World} {base n cap o g : Nat} {l : List UInt8} (h : Win w base 1 (.slice (some ⟨g, o, none⟩) n cap) n (l.map byV)) (k : Nat) (hk : k < n) (c : UInt8) :
    Win (w.setCell ⟨g, o + k, none⟩ (byV c)) base 1 (.slice (some ⟨g, o, none⟩) n cap) n ((l.set k c).map byV) := by
  have hl : l.length = n := by have := h.1; simpa using this
  have h1 := h.set k hk (c := [byV c]) rfl
  simp only [Nat.mul_one, World.setCells] at h1
  rw [List.set_eq_take_append_cons_drop, if_pos (by omega)]
  simpa [List.map_take, List.map_drop] using h1
theorem byte_wrap (c : UInt8) : IntKind.u8.wrap ((c.toNat : Int) + 1) = ((c + 1).toNat : Int) := by
  have h := c.toNat_lt
  rw [UInt8.toNat_add]
  simp only [IntKind.wrap, IntKind.signed, IntKind.bits]
  first | done | simp | omega
/-- a byte of a slice set anew -/
theorem Bytes.bump {w : World} {A : Nat → Prop} {g o n c : Nat} {l : List UInt8} (h : Bytes w A (.slice (some ⟨g, o, none⟩) n c) l) (k : Nat) (hk : k < l.length) (d : UInt8) :
    Bytes (w.setCell ⟨g, o + k, none⟩ (byV d)) A (.slice (some ⟨g, o, none⟩) n c) (l.set k d) := by
  rcases h with ⟨a, h1, h2⟩ | ⟨b, o', c', h1, h2, h3, h4⟩
  · subst h2; simp at hk
  · cases h1
    refine .inr ⟨g, o, c, by simp, by simpa using h2, h3, fun i hi => ?_⟩
    have hi' : i < l.length := by simpa using hi
    have hc := h4 i hi'
    unfold ByteAt at hc ⊢
    simp only [Nat.mul_one] at hc ⊢
    have h4k := h4 k hk
    unfold ByteAt at h4k
    simp only [Nat.mul_one] at h4k
    rw [cell_set h4k (byV d)]
    by_cases hik : i = k
    · subst hik; simp
    · rw [if_neg (by simp; omega), hc, List.getElem_set_ne (by omega)]
theorem Wr.set {w : World} {v : Value} (h : Wr w v) (p : Addr) (u : Value) : Wr (w.setCell p u) v := by
  intro b o n c hv i
  have := h b o n c hv i
  rw [← this]
  simp [go_sem]
theorem Wr.keeps {w w' : World} {A S : Nat → Prop} {a : Option Addr} {c : Nat} {l : List UInt8} (hb : Bytes w A (.slice a l.length c) l) (h : Wr w (.slice a l.length c)) (hk : Keeps S w w') (hA : ∀ k, A k → ¬ S k ∧ k < w.heap.size) (hl : 0 < l.length) : Wr w' (.slice a l.length c) := by
  rcases hb with ⟨a', h1, h2⟩ | ⟨b, o', c', h1, h2, h3, h4⟩
  · subst h2; simp at hl
  · cases h1
    rintro b' o'' n'' c'' hv i
    cases hv
    rw [hk.frozen (hA _ h3).1 (hA _ h3).2]
    exact h _ _ _ _ rfl i

end Go.Proofs.YtcfgnbbiljohjaaGreatDoor
end
section
/- The sum of bytes, bit by bit, and how machine words of 32 bits lie in values. No program is named here. -/
set_option linter.unusedVariables false
set_option linter.unusedSimpArgs false
namespace Go.Proofs.YtcfgnbbiljohjaaGreatDoor
open Go.RowKit

/-- a word -/
def wV (n : Nat) : Value := .int .u32 (n : Int)
def polyN : Nat := 3988292384
/-- a word by x -/
def tmN (n : Nat) : Nat := if n % 2 = 1 then n / 2 ^^^ polyN else n / 2
def tmK : Nat → Nat → Nat
  | 0, n => n
  | k + 1, n => tmN (tmK k n)
/-- a word and one byte behind it -/
def crcB (n : Nat) (c : UInt8) : Nat := tmK 8 (n ^^^ c.toNat)
def crcL (n : Nat) (l : List UInt8) : Nat := l.foldl crcB n
/-- the sum of bytes -/
def crcS (l : List UInt8) : Nat := 4294967295 - crcL 4294967295 l
def low4 (n : Nat) : List UInt8 := [UInt8.ofNat n, UInt8.ofNat (n / 256), UInt8.ofNat (n / 65536), UInt8.ofNat (n / 16777216)]
def sealL (l : List UInt8) : List UInt8 := l ++ low4 (crcS l)
theorem low4_len (n : Nat) : (low4 n).length = 4 := rfl
theorem sealL_len (l : List UInt8) : (sealL l).length = l.length + 4 := by unfold sealL; rw [List.length_append, low4_len]
/-- the bytes of sealed ones -/
def openL (l : List UInt8) : Option (List UInt8) := if l.length < 4 then none else if low4 (crcS (l.take (l.length - 4))) = l.drop (l.length - 4) then some (l.take (l.length - 4)) else none
theorem open_seal (l : List UInt8) : openL (sealL l) = some l := by
  unfold openL
  have h1 : (sealL l).length - 4 = l.length := by rw [sealL_len]; omega
  rw [if_neg (by rw [sealL_len]; omega), h1]
  unfold sealL
  rw [List.take_left' rfl, List.drop_left' rfl, if_pos rfl]
theorem open_some {l m : List UInt8} (h : openL l = some m) : l = sealL m := by
  unfold openL at h
  split at h
  · cases h
  · split at h
    · rename_i h2 h1
      cases h
      unfold sealL
      rw [h1, List.take_append_drop]
    · cases h
/-- .. as the document says it -/
theorem open_doc (l : List UInt8) : openL l = if l.length < 4 then none else if sealL (l.take (l.length - 4)) = l then some (l.take (l.length - 4)) else none := by
  by_cases h : l.length < 4
  · unfold openL; rw [if_pos h, if_pos h]
  · rw [if_neg h]
    by_cases h2 : sealL (l.take (l.length - 4)) = l
    · rw [if_pos h2]
      have := open_seal (l.take (l.length - 4))
      rwa [h2] at this
    · rw [if_neg h2]
      cases h3 : openL l with
      | none => rfl
      | some m =>
        exfalso
        have h4 := open_some h3
        apply h2
        have h5 : l.length - 4 = m.length := by rw [h4, sealL_len]; omega
        rw [h5]
        conv => rhs; rw [h4]
        congr 1
        rw [h4]; unfold sealL
        exact List.take_left' rfl

theorem tmN_lt {n : Nat} (h : n < 4294967296) : tmN n < 4294967296 := by
  unfold tmN polyN
  split
  · exact Nat.xor_lt_two_pow (n := 32) (by omega) (by omega)
  · omega
theorem tmK_lt {n : Nat} (h : n < 4294967296) : ∀ k, tmK k n < 4294967296
  | 0 => h
  | k + 1 => tmN_lt (tmK_lt h k)
theorem crcB_lt {n : Nat} (h : n < 4294967296) (c : UInt8) : crcB n c < 4294967296 := tmK_lt (Nat.xor_lt_two_pow (n := 32) (by omega) (by have := c.toNat_lt; omega)) 8
theorem crcL_lt {n : Nat} (h : n < 4294967296) : ∀ l : List UInt8, crcL n l < 4294967296 := by
  intro l
  induction l generalizing n with
  | nil => exact h
  | cons c l ih => rw [show crcL n (c :: l) = crcL (crcB n c) l by unfold crcL; rw [List.foldl_cons]]; exact ih (crcB_lt h c)
theorem crcS_lt (l : List UInt8) : crcS l < 4294967296 := Nat.lt_of_le_of_lt (Nat.sub_le _ _) (by decide)
theorem crcL_cons (n : Nat) (c : UInt8) (l : List UInt8) : crcL n (c :: l) = crcL (crcB n c) l := by unfold crcL; rw [List.foldl_cons]
theorem crcL_take {n : Nat} {l : List UInt8} {i : Nat} (hi : i < l.length) : crcL n (l.take (i + 1)) = crcB (crcL n (l.take i)) l[i] := by
  unfold crcL
  rw [List.take_succ_eq_append_getElem hi, List.foldl_append, List.foldl_cons, List.foldl_nil]
/-! what the machine's bit operations come to -/
theorem ofInt32 {n : Nat} (h : n < 4294967296) : (BitVec.ofInt 32 (n : Int)).toNat = n := by
  rw [BitVec.ofInt_natCast, BitVec.toNat_ofNat]
  exact Nat.mod_eq_of_lt (by omega)
theorem xor_u32 {a b : Nat} (ha : a < 4294967296) (hb : b < 4294967296) : bits .xor .u32 (a : Int) (b : Int) = ((a ^^^ b : Nat) : Int) := by
  show IntKind.u32.wrap ((BitVec.ofInt 32 (a : Int) ^^^ BitVec.ofInt 32 (b : Int)).toNat : Int) = _
  rw [BitVec.toNat_xor, ofInt32 ha, ofInt32 hb]
  have := Nat.xor_lt_two_pow (n := 32) ha hb
  simp [IntKind.wrap, IntKind.bits, IntKind.signed]
  omega
theorem and1_u32 {a : Nat} (ha : a < 4294967296) : bits .and .u32 (a : Int) 1 = ((a % 2 : Nat) : Int) := by
  show IntKind.u32.wrap ((BitVec.ofInt 32 (a : Int) &&& BitVec.ofInt 32 ((1 : Nat) : Int)).toNat : Int) = _
  rw [BitVec.toNat_and, ofInt32 ha, ofInt32 (by decide), Nat.and_one_is_mod]
  simp [IntKind.wrap, IntKind.bits, IntKind.signed]
  omega
theorem not_u32 {a : Nat} (ha : a < 4294967296) : bits .xor .u32 IntKind.u32.max (a : Int) = ((4294967295 - a : Nat) : Int) := by
  show IntKind.u32.wrap ((BitVec.ofInt 32 ((4294967295 : Nat) : Int) ^^^ BitVec.ofInt 32 (a : Int)).toNat : Int) = _
  rw [BitVec.toNat_xor, ofInt32 ha, ofInt32 (by decide)]
  have h : (4294967295 : Nat) ^^^ a = 4294967295 - a := by
    have h1 : (BitVec.allOnes 32 ^^^ BitVec.ofNat 32 a).toNat = 4294967295 - a := by
      rw [BitVec.allOnes_xor, BitVec.toNat_not, BitVec.toNat_ofNat, Nat.mod_eq_of_lt (by omega)]
    rw [BitVec.toNat_xor, BitVec.toNat_allOnes, BitVec.toNat_ofNat, Nat.mod_eq_of_lt (by omega)] at h1
    exact h1
  rw [h]
  simp [IntKind.wrap, IntKind.bits, IntKind.signed]
  omega
end Go.Proofs.YtcfgnbbiljohjaaGreatDoor
end
section
/- Numbers as bytes, and what a reader takes off bytes. No program is named here. -/
set_option linter.unusedVariables false
set_option linter.unusedSimpArgs false
namespace Go.Proofs.YtcfgnbbiljohjaaGreatDoor
open Go.RowKit

def topN : Nat := 4611686018427387904
/-- a number's bytes -/
def numF : Nat → Nat → List UInt8
  | 0, n => [UInt8.ofNat n]
  | f + 1, n => if 128 ≤ n then UInt8.ofNat (n % 128 + 128) :: numF f (n / 128) else [UInt8.ofNat n]
def numL (n : Nat) : List UInt8 := numF 9 n
/-- the number with which bytes begin, how many bytes it has; 0: it goes on; below 0: there is none -/
def takeG : Nat → Nat → List UInt8 → Nat × Int
  | i, _, [] => (0, if 9 ≤ i then -1 else 0)
  | i, n, c :: l => if i = 9 then (0, -1) else
    if c.toNat < 128 then (if (0 < i ∧ c.toNat = 0) ∨ topN < n + c.toNat % 128 * 128 ^ i then (0, -1) else (n + c.toNat % 128 * 128 ^ i, (i : Int) + 1))
    else takeG (i + 1) (n + c.toNat % 128 * 128 ^ i) l
def takeL (l : List UInt8) : Nat × Int := takeG 0 0 l

theorem byte_ofNat {n : Nat} (h : n < 256) : (UInt8.ofNat n).toNat = n := by
  rw [UInt8.toNat_ofNat']; exact Nat.mod_eq_of_lt h
theorem ofNat_byte (c : UInt8) : UInt8.ofNat c.toNat = c := by simp
theorem takeG_cons (i n : Nat) (c : UInt8) (l : List UInt8) : takeG i n (c :: l) = if i = 9 then (0, -1) else
    if c.toNat < 128 then (if (0 < i ∧ c.toNat = 0) ∨ topN < n + c.toNat % 128 * 128 ^ i then (0, -1) else (n + c.toNat % 128 * 128 ^ i, (i : Int) + 1))
    else takeG (i + 1) (n + c.toNat % 128 * 128 ^ i) l := rfl
theorem takeG_nine (n : Nat) (l : List UInt8) : takeG 9 n l = (0, -1) := by
  cases l with
  | nil => rfl
  | cons c l => simp [takeG]
theorem takeG_spec : ∀ (l : List UInt8) (i n : Nat), i ≤ 9 → (takeG i n l).1 ≤ topN ∧ (takeG i n l).2 ≤ 9 ∧ ((takeG i n l).2 ≤ 0 → (takeG i n l).1 = 0) ∧ -1 ≤ (takeG i n l).2 ∧ (takeG i n l).2 ≤ (i : Int) + l.length ∧ ((takeG i n l).2 = 0 → (i : Int) + l.length < 9)
    ∧ (0 < (takeG i n l).2 → (i : Int) < (takeG i n l).2)
  | [], i, n, hi => by
    unfold takeG
    split
    · exact ⟨Nat.zero_le _, by decide, fun _ => rfl, by decide, by rw [List.length_nil]; omega, by simp, by simp⟩
    · exact ⟨Nat.zero_le _, by decide, fun _ => rfl, by decide, by simp, by simp; omega, by simp⟩
  | c :: l, i, n, hi => by
    unfold takeG
    split
    · exact ⟨Nat.zero_le _, by decide, fun _ => rfl, by decide, by rw [List.length_cons]; omega, by simp, by simp⟩
    · split
      · split
        · exact ⟨Nat.zero_le _, by decide, fun _ => rfl, by decide, by rw [List.length_cons]; omega, by simp, by simp⟩
        · rename_i h1 h2 h3
          refine ⟨by dsimp only; omega, by dsimp only; omega, fun h => ?_, by dsimp only; omega, by dsimp only; rw [List.length_cons]; omega, fun h => ?_, fun h => by dsimp only; omega⟩
          · dsimp only at h; omega
          · dsimp only at h; omega
      · rename_i h1 h2
        obtain ⟨a1, a2, a3, a4, a5, a6, a7⟩ := takeG_spec l (i + 1) (n + c.toNat % 128 * 128 ^ i) (by omega)
        refine ⟨a1, a2, a3, a4, ?_, fun h => ?_, fun h => ?_⟩
        · rw [List.length_cons]; omega
        · have := a6 h; rw [List.length_cons]; omega
        · have := a7 h; omega
theorem takeL_le (l : List UInt8) : (takeL l).1 ≤ topN := (takeG_spec l 0 0 (by omega)).1
theorem takeL_k (l : List UInt8) : -1 ≤ (takeL l).2 ∧ (takeL l).2 ≤ 9 ∧ (takeL l).2 ≤ l.length := by
  have h := takeG_spec l 0 0 (by omega)
  refine ⟨h.2.2.2.1, h.2.1, ?_⟩
  have := h.2.2.2.2.1
  rw [Int.natCast_zero, Int.zero_add] at this
  exact this
theorem takeL_zero (l : List UInt8) (h : (takeL l).2 ≤ 0) : (takeL l).1 = 0 := (takeG_spec l 0 0 (by omega)).2.2.1 h
theorem takeL_go (l : List UInt8) (h : (takeL l).2 = 0) : l.length < 9 := by
  have := (takeG_spec l 0 0 (by omega)).2.2.2.2.2.1 h
  omega

theorem numF_more : ∀ (f n : Nat), n < 128 ^ (f + 1) → numF (f + 1) n = numF f n
  | 0, n, h => by
    unfold numF
    rw [if_neg (by rw [Nat.zero_add, Nat.pow_one] at h; omega)]
  | f + 1, n, h => by
    have h1 : n / 128 < 128 ^ (f + 1) := by rw [Nat.pow_succ] at h; omega
    conv => lhs; unfold numF
    conv => rhs; unfold numF
    rw [numF_more f (n / 128) h1]
theorem numL_step {n : Nat} (h : n < 9223372036854775808) : numL n = if 128 ≤ n then UInt8.ofNat (n % 128 + 128) :: numL (n / 128) else [UInt8.ofNat n] := by
  have h1 : n / 128 < 128 ^ 9 := by omega
  unfold numL
  rw [numF_more 8 (n / 128) h1]
  rfl
theorem numF_len : ∀ (f n : Nat), 1 ≤ (numF f n).length ∧ (numF f n).length ≤ f + 1
  | 0, n => by simp [numF]
  | f + 1, n => by
    unfold numF
    split
    · have := numF_len f (n / 128)
      rw [List.length_cons]; omega
    · simp
theorem numL_len (n : Nat) : 1 ≤ (numL n).length ∧ (numL n).length ≤ 10 := numF_len 9 n
theorem numL_small {n : Nat} (h : n < 128) : numL n = [UInt8.ofNat n] := by unfold numL numF; rw [if_neg (by omega)]
theorem numF_len2 : ∀ (f n : Nat), n < 128 ^ (f + 1) → ∀ g, numF (f + g) n = numF f n
  | f, n, h, 0 => rfl
  | f, n, h, g + 1 => by
    rw [← Nat.add_assoc, numF_more (f + g) n (Nat.lt_of_lt_of_le h (Nat.pow_le_pow_right (by decide) (by omega)))]
    exact numF_len2 f n h g
theorem numL_two {n : Nat} (h : n < 16384) : (numL n).length ≤ 2 := by
  unfold numL
  rw [numF_len2 1 n (by omega) 8]
  exact (numF_len 1 n).2
theorem numL_five {n : Nat} (h : n ≤ 2147483647) : (numL n).length ≤ 5 := by
  unfold numL
  rw [numF_len2 4 n (by omega) 5]
  exact (numF_len 4 n).2
/-- what was laid is taken -/
theorem takeG_num : ∀ (f i acc n : Nat) (r : List UInt8), n < 128 ^ (f + 1) → i + f ≤ 8 → acc + n * 128 ^ i ≤ topN → (0 < i → n ≠ 0) → takeG i acc (numF f n ++ r) = (acc + n * 128 ^ i, (i : Int) + (numF f n).length)
  | 0, i, acc, n, r, h, hi, ht, h0 => by
    have hn : n < 128 := by simpa using h
    have h1 : (UInt8.ofNat n).toNat = n := byte_ofNat (by omega)
    unfold numF
    rw [List.singleton_append, takeG_cons, if_neg (by omega)]
    simp only [h1]
    rw [if_pos hn, Nat.mod_eq_of_lt hn, if_neg (by omega)]
    rfl
  | f + 1, i, acc, n, r, h, hi, ht, h0 => by
    unfold numF
    split
    · rename_i hb
      have h1 : (UInt8.ofNat (n % 128 + 128)).toNat = n % 128 + 128 := byte_ofNat (by omega)
      rw [List.cons_append, takeG_cons, if_neg (by omega)]
      simp only [h1]
      have he : acc + (n % 128 + 128) % 128 * 128 ^ i + n / 128 * 128 ^ (i + 1) = acc + n * 128 ^ i := by
        have h2 : n = n % 128 + n / 128 * 128 := by omega
        have h3 : (n % 128 + 128) % 128 = n % 128 := by omega
        rw [h3, Nat.pow_succ, Nat.add_assoc]
        congr 1
        conv => rhs; rw [h2, Nat.add_mul]
        rw [Nat.mul_assoc, Nat.mul_comm (128 ^ i) 128]
      rw [if_neg (by omega), takeG_num f (i + 1) _ (n / 128) r (by rw [Nat.pow_succ] at h; omega) (by omega) (by rw [he]; exact ht) (fun _ => by omega), he, List.length_cons]
      congr 1
      omega
    · rename_i hb
      have h1 : (UInt8.ofNat n).toNat = n := byte_ofNat (by omega)
      rw [List.singleton_append, takeG_cons, if_neg (by omega)]
      simp only [h1]
      rw [if_pos (by omega), Nat.mod_eq_of_lt (by omega), if_neg (by omega)]
      rfl
theorem takeL_num {n : Nat} (h : n ≤ topN) (r : List UInt8) : takeL (numL n ++ r) = (n, ((numL n).length : Int)) := by
  have h0 : n < 128 ^ 9 := by unfold topN at h; omega
  unfold takeL numL
  rw [numF_more 8 n h0]
  have := takeG_num 8 0 0 n r h0 (by omega) (by simpa using h) (by omega)
  simpa using this
theorem numL_nine {n : Nat} (h : n ≤ topN) : (numL n).length ≤ 9 := by
  have h0 : n < 128 ^ 9 := by unfold topN at h; omega
  unfold numL
  rw [numF_more 8 n h0]
  exact (numF_len 8 n).2
/-- what was taken is laid -/
theorem numG_take : ∀ (l : List UInt8) (i acc : Nat), i ≤ 8 → 0 < (takeG i acc l).2 → ∃ x, (takeG i acc l).1 = acc + x * 128 ^ i ∧ (0 < i → x ≠ 0) ∧ x < 128 ^ (9 - i) ∧ ∃ k : Nat, (takeG i acc l).2 = (i : Int) + k ∧ l.take k = numF (8 - i) x
  | [], i, acc, hi, h => by
    unfold takeG at h
    rw [if_neg (by omega)] at h
    cases h
  | c :: l, i, acc, hi, h => by
    have hc := c.toNat_lt
    rw [takeG_cons, if_neg (by omega)] at h ⊢
    split at h
    · rename_i h1
      rw [if_pos h1]
      split at h
      · cases h
      · rename_i h2
        rw [if_neg h2]
        refine ⟨c.toNat, by rw [Nat.mod_eq_of_lt h1], fun h3 h4 => h2 (.inl ⟨h3, h4⟩), ?_, 1, rfl, ?_⟩
        · exact Nat.lt_of_lt_of_le h1 (by have := Nat.pow_le_pow_right (n := 128) (by decide) (show 1 ≤ 9 - i by omega); rwa [Nat.pow_one] at this)
        · have : ∀ f, numF f c.toNat = [c] := fun f => by
            cases f with
            | zero => rw [numF, ofNat_byte]
            | succ f => rw [numF, if_neg (by omega), ofNat_byte]
          rw [this]; rfl
    · rename_i h1
      rw [if_neg h1]
      by_cases h8 : i = 8
      · subst h8
        rw [takeG_nine] at h
        cases h
      · obtain ⟨x, e1, e2, e3, k, e4, e5⟩ := numG_take l (i + 1) (acc + c.toNat % 128 * 128 ^ i) (by omega) h
        have hx : x ≠ 0 := e2 (by omega)
        refine ⟨c.toNat % 128 + x * 128, ?_, fun _ => by omega, ?_, k + 1, by omega, ?_⟩
        · rw [e1, Nat.pow_succ, Nat.add_mul, Nat.mul_assoc, Nat.mul_comm 128 (128 ^ i), Nat.add_assoc]
        · obtain ⟨d, hd⟩ : ∃ d, 9 - i = d + 1 := ⟨8 - i, by omega⟩
          have hd' : 9 - (i + 1) = d := by omega
          rw [hd'] at e3
          rw [hd, Nat.pow_succ]
          omega
        · obtain ⟨d, hd⟩ : ∃ d, 8 - i = d + 1 := ⟨7 - i, by omega⟩
          have hd' : 8 - (i + 1) = d := by omega
          rw [hd'] at e5
          rw [hd, numF, if_pos (by omega), List.take_succ_cons, e5]
          congr 1
          · have : c.toNat = (c.toNat % 128 + x * 128) % 128 + 128 := by omega
            rw [← this, ofNat_byte]
          · congr 1; omega
theorem numL_take {l : List UInt8} (h : 0 < (takeL l).2) : l.take (takeL l).2.toNat = numL (takeL l).1 := by
  obtain ⟨x, e1, -, e3, k, e4, e5⟩ := numG_take l 0 0 (by omega) h
  have e1' : (takeL l).1 = x := by unfold takeL; rw [e1]; simp
  have e4' : (takeL l).2 = (k : Int) := by unfold takeL; rw [e4]; simp
  rw [e1', e4', Int.toNat_natCast]
  unfold numL
  rw [numF_more 8 x e3]
  exact e5

/-! ### readers -/
/-- bytes that are left, an error -/
structure Rdr where
  b : List UInt8
  e : Int
def Rdr.bad : Rdr := ⟨[], 120⟩
def Rdr.num (r : Rdr) (g : Int) : Rdr × Nat × Int :=
  if r.e ≠ 0 then (r, 0, r.e) else if g < 0 then (r, 0, 2) else
  if 0 < (takeL r.b).2 ∧ ((takeL r.b).1 : Int) ≤ g then (⟨r.b.drop (takeL r.b).2.toNat, 0⟩, (takeL r.b).1, 0) else (Rdr.bad, 0, 120)
def Rdr.txt (r : Rdr) (g : Int) : Rdr × List UInt8 × Int :=
  if (r.num g).2.2 ≠ 0 then ((r.num g).1, [], (r.num g).2.2) else
  if (r.num g).2.1 ≤ (r.num g).1.b.length then (⟨(r.num g).1.b.drop (r.num g).2.1, 0⟩, (r.num g).1.b.take (r.num g).2.1, 0) else (Rdr.bad, [], 120)
def Rdr.tru (r : Rdr) : Rdr × Bool × Int :=
  if r.e ≠ 0 then (r, false, r.e) else match r.b with
  | [] => (Rdr.bad, false, 120)
  | c :: l => if c.toNat ≤ 1 then (⟨l, 0⟩, c.toNat == 1, 0) else (Rdr.bad, false, 120)
def Rdr.fin (r : Rdr) : Rdr × Int := if r.e ≠ 0 then (r, r.e) else if r.b = [] then (r, 0) else (Rdr.bad, 120)
/-- a text's bytes -/
def txtL (s : List UInt8) : List UInt8 := numL s.length ++ s
def truL (b : Bool) : List UInt8 := [if b then 1 else 0]
/-- a frame -/
def frameL (l : List UInt8) : List UInt8 := numL (l.length + 4) ++ sealL l
def splitL (l : List UInt8) : List UInt8 × Nat × Int :=
  if (takeL l).2 = 0 then ([], 0, 0) else if (takeL l).2 < 0 ∨ (takeL l).1 < 4 ∨ 4100 < (takeL l).1 then ([], 0, 121) else
  if l.length < (takeL l).2.toNat + (takeL l).1 then ([], 0, 0) else
  match openL ((l.drop (takeL l).2.toNat).take (takeL l).1) with
  | none => ([], 0, 110)
  | some m => (m, (takeL l).2.toNat + (takeL l).1, 0)
end Go.Proofs.YtcfgnbbiljohjaaGreatDoor
end
section
/- The program's sum of bytes. Condition: the bytes lie as 'Bytes' says. -/
set_option linter.unusedVariables false
set_option linter.unusedSimpArgs false
set_option maxHeartbeats 1000000
set_option maxRecDepth 10000
namespace Go.Proofs.YtcfgnbbiljohjaaGreatDoor
open Go.RowKit

theorem Bytes.at {w : World} {A : Nat → Prop} {l : List UInt8} {a : Option Addr} {c : Nat} (h : Bytes w A (.slice a l.length c) l) (k : Nat) (hk : k < l.length) :
    ∃ g o, a = some ⟨g, o, none⟩ ∧ A g ∧ g < w.heap.size ∧ w.cell? ⟨g, o + k, none⟩ = some (.int .u8 (l[k].toNat : Int)) := by
  rcases h with ⟨a', h1, h2⟩ | ⟨b, o, c', h1, h2, h3, h4⟩
  · subst h2; simp at hk
  · cases h1
    have := h4 k hk
    unfold ByteAt at this
    rw [Nat.mul_one] at this
    exact ⟨b, o, rfl, h3, World.block_lt_of_cell? _ _ this, this⟩

theorem Upd.mono {F G : Nat → Prop} {w0 w : World} {r : Res} (h : Upd F w0 w r) (hs : ∀ k, F k → G k) : Upd G w0 w r :=
  let ⟨F', h1, h2, h3⟩ := h
  ⟨F', h1, h2.mono fun k _ => hs k, fun k hk => (h3 k hk).imp (hs k) id⟩
theorem times_any (w : World) (b n : Nat) (hn : n < 4294967296) (hb : Box w b 196 [wV n]) :
    Calls Tryz.prog 167 #[.pointer (some ⟨b, 0, none⟩)] w fun e w' => e = .returned (.tuple #[]) ∧ w' = w.setCell ⟨b, 0, none⟩ (wV (tmN n)) := by
  have HB := Lib.hid hb
  have HN := Lib.hid hn
  have hand := and1_u32 hn
  clear hb hn
  unfold wV at HB
  rcases Nat.mod_two_eq_zero_or_one n with h2 | h2
  · have hx : bits .xor .u32 ((n : Int) / 2) 0 = ((n / 2 : Nat) : Int) := by
      have := xor_u32 (a := n / 2) (b := 0) (by have := HN.out; omega) (by decide)
      rw [Nat.xor_zero] at this
      exact this
    have ht : tmN n = n / 2 := by unfold tmN; rw [if_neg (by omega)]
    have HT := Lib.hid ht
    rw [h2] at hand
    rw [← ht] at hx
    clear h2 ht
    go_enter Tryz.func167, Tryz.ntmps167
    obtain ⟨cHB, zHB⟩ := HB.out.reads
    have lHB := HB.out.lt
    go_wp2_with fail
    go_end0
    refine ⟨rfl, ?_⟩
    unfold wV
    rfl
  · have hx : bits .xor .u32 ((n : Int) / 2) 3988292384 = ((n / 2 ^^^ polyN : Nat) : Int) := xor_u32 (a := n / 2) (b := polyN) (by have := HN.out; omega) (by decide)
    have ht : tmN n = n / 2 ^^^ polyN := by unfold tmN; rw [if_pos h2]
    have HT := Lib.hid ht
    rw [h2] at hand
    rw [← ht] at hx
    clear h2 ht
    go_enter Tryz.func167, Tryz.ntmps167
    obtain ⟨cHB, zHB⟩ := HB.out.reads
    have lHB := HB.out.lt
    go_wp2_with fail
    go_end0
    refine ⟨rfl, ?_⟩
    unfold wV
    rfl

theorem take1_any (w : World) (k b n : Nat) (c : UInt8) (hn : n < 4294967296) (hk : Box w k 203 [.pointer (some ⟨b, 0, none⟩)]) (hb : Box w b 196 [wV n]) :
    Calls Tryz.prog 165 #[.int .u8 (c.toNat : Int), .pointer (some ⟨k, 0, none⟩)] w fun e w' => e = .returned (.tuple #[]) ∧ w' = w.setCell ⟨b, 0, none⟩ (wV (n ^^^ c.toNat)) := by
  have HB := Lib.hid hb
  have HK := Lib.hid hk
  have hc := c.toNat_lt
  have hx := xor_u32 (a := n) (b := c.toNat) hn (by omega)
  have HX := Lib.hid hx
  have hw : IntKind.u32.wrap (c.toNat : Int) = (c.toNat : Int) := by simp [IntKind.wrap, IntKind.bits, IntKind.signed]; omega
  clear hb hk hn
  unfold wV at HB
  go_enter Tryz.func165, Tryz.ntmps165
  obtain ⟨cHB, zHB⟩ := HB.out.reads
  have lHB := HB.out.lt
  obtain ⟨cHK, zHK⟩ := HK.out.reads
  have lHK := HK.out.lt
  go_wp2_with fail
  go_end0
  refine ⟨rfl, ?_⟩
  unfold wV
  rfl
theorem take2_any (w : World) (k b n : Nat) (c : Value) (hn : n < 4294967296) (hk : Box w k 203 [.pointer (some ⟨b, 0, none⟩)]) (hb : Box w b 196 [wV n]) (hkb : k ≠ b) :
    Calls Tryz.prog 166 #[c, .pointer (some ⟨k, 0, none⟩)] w fun e w' => e = .returned (.tuple #[]) ∧ Upd (OneB b) w w' (cellsR b 196 [wV (tmK 8 n)]) := by
  have HM := Lib.hid (Mem.start (F := OneB b) (r := cellsR b 196 [wV n]) ⟨fun _ => Iff.rfl, hb⟩)
  have HK := Lib.hid hk
  have HN := Lib.hid hn
  have HKB := Lib.hid hkb
  clear hb hk hn hkb
  go_enter Tryz.func166, Tryz.ntmps166
  go_wp2_with fail
  go_loopw [3] (fun i wr => ∃ j : Nat, j ≤ 8 ∧ i = .int .i64 j ∧ Hid (Mem (OneB b) w wr [cellsR b 196 [wV (tmK j n)]])) (fun i _ => 8 - (intOf i).toNat)
  case atStart => exact ⟨0, Nat.zero_le _, rfl, HM⟩
  case round =>
    clear HM
    obtain ⟨j, hj, rfl, HM⟩ := hrel
    by_cases hlt : j < 8
    · have g1 : (j : Int) < 8 := by omega
      have hk := HK.out.keeps HM.out.keepsTo HKB.out
      have HK1 := Lib.hid hk
      clear hk
      obtain ⟨cHK1, zHK1⟩ := HK1.out.reads
      have lHK1 := HK1.out.lt
      go_wp2_with fail
      clear cHK1 zHK1 lHK1
      obtain ⟨Ahb, hb⟩ := HM.out.get (r := cellsR b 196 [wV (tmK j n)]) (by with_reducible repeat first | exact ph | apply pt)
      refine (times_any _ b _ (tmK_lt HN.out j) hb.2).mono ?_
      rintro e w' ⟨rfl, rfl⟩
      clear hb
      go_wp2_with fail
      go_roundw
      case rel => exact ⟨j + 1, by omega, by go_num, Lib.hid HM.out.to⟩
      case measure => simp [intOf]; omega
    · obtain rfl : j = 8 := by omega
      go_wp2_with fail
      go_end0
      exact ⟨rfl, HM.out.upd⟩
theorem take_any {A : Nat → Prop} (w : World) (b n : Nat) (v : Value) (l : List UInt8) (hl : l.length ≤ 70368744177664) (hn : n < 4294967296) (hb : Box w b 196 [wV n]) (h : Bytes w A v l) (hA : ¬ A b) :
    Calls Tryz.prog 159 #[.pointer (some ⟨b, 0, none⟩), v] w fun e w' => e = .returned (.tuple #[]) ∧ Upd (OneB b) w w' (cellsR b 196 [wV (crcL n l)]) := by
  obtain ⟨a, c, rfl⟩ := h.len
  have HM := Lib.hid (Mem.start (F := OneB b) (r := cellsR b 196 [wV n]) ⟨fun _ => Iff.rfl, hb⟩)
  have HB := Lib.hid h
  have HN := Lib.hid hn
  have HA := Lib.hid (show ∀ k, A k → ¬ OneB b k from fun k hk e => hA (by rw [← show k = b from e]; exact hk))
  have HBL := Lib.hid hb.lt
  clear h hb hn hA
  go_enter Tryz.func159, Tryz.ntmps159
  go_wp2_with fail
  refine nxt HM fun w1 M => ?_
  clear HM; have HM := M; clear M
  obtain ⟨k, hk⟩ : ∃ k, w.heap.size = k := ⟨_, rfl⟩
  obtain ⟨q, hq⟩ : ∃ q, k + 1 = q := ⟨_, rfl⟩
  have HKQ := Lib.hid (show k ≠ b ∧ k ≠ q from ⟨by have := HBL.out; omega, by omega⟩)
  rw [hk, hq]
  rw [hk, hq] at HM
  clear hk hq
  go_loopw [14] (fun i wr => ∃ j : Nat, j ≤ l.length ∧ i = .int .i64 j ∧ Hid (Mem (OneB b) w wr [cellsR q 204 [.func (.func 165) #[] #[.pointer (some ⟨k, 0, none⟩)], .func (.func 166) #[] #[.pointer (some ⟨k, 0, none⟩)]], cellsR k 203 [.pointer (some ⟨b, 0, none⟩)], cellsR b 196 [wV (crcL n (l.take j))]])) (fun i _ => l.length - (intOf i).toNat)
  case atStart => exact ⟨0, Nat.zero_le _, rfl, HM⟩
  case round =>
    clear HM
    obtain ⟨j, hj, rfl, HM⟩ := hrel
    by_cases hlt : j < l.length
    · have g1 : (j : Int) < l.length := by omega
      have g2 : ¬ (j : Int) < 0 := by omega
      obtain ⟨g, o, rfl, -, hg, hc⟩ := (HB.out.keeps HM.out.keepsTo HA.out).at j hlt
      have HS := Lib.hid (show crcL n (l.take (j + 1)) = tmK 8 (crcL n (l.take j) ^^^ l[j].toNat) from crcL_take hlt)
      obtain ⟨x, hx⟩ : ∃ x, l[j] = x := ⟨_, rfl⟩
      rw [hx] at hc HS
      clear hx
      obtain ⟨m, hm⟩ : ∃ m, crcL n (l.take j) = m := ⟨_, rfl⟩
      have HL := Lib.hid (show m < 4294967296 by rw [← hm]; exact crcL_lt HN.out _)
      rw [hm] at HM HS
      clear hm
      have fM := HM.out.fa
      go_wp2_with fail
      all_goals clear fM
      refine wp_loop_rounds 3 ?_
      rw [rounds_succ]
      clear hc
      have fM := HM.out.fa
      go_wp2_with fail
      all_goals clear fM
      refine nxt HM fun w2 M => ?_
      clear HM; have HM := M; clear M
      obtain ⟨Ahb, hb⟩ := HM.out.get (r := cellsR b 196 [wV m]) (by with_reducible repeat first | exact ph | apply pt)
      obtain ⟨Ahk, hk⟩ := HM.out.get (r := cellsR k 203 [.pointer (some ⟨b, 0, none⟩)]) (by with_reducible repeat first | exact ph | apply pt)
      refine (take1_any w2 k b m x HL.out hk.2 hb.2).mono ?_
      rintro e w' ⟨rfl, rfl⟩
      clear hb hk
      go_wp2_with fail
      refine nxt HM fun w3 M => ?_
      clear HM; have HM := M; clear M
      rw [rounds_succ]
      have fM := HM.out.fa
      go_wp2_with fail
      all_goals clear fM
      refine nxt HM fun w4 M => ?_
      clear HM; have HM := M; clear M
      obtain ⟨Ahk, hk⟩ := HM.out.get (r := cellsR k 203 [.pointer (some ⟨b, 0, none⟩)]) (by with_reducible repeat first | exact ph | apply pt)
      obtain ⟨B, hB, hS⟩ := (HM.out.pick (r := cellsR b 196 [wV (m ^^^ x.toNat)]) (by with_reducible repeat first | exact ph | apply pt)).step
      refine (take2_any w4 k b (m ^^^ x.toNat) _ (Nat.xor_lt_two_pow (n := 32) HL.out (by have := x.toNat_lt; omega)) hk.2 hB.2 HKQ.out.1).mono ?_
      rintro e w5 ⟨rfl, hU⟩
      replace HM := Lib.hid (hS _ _ (hU.mono fun k h => (hB.1 k).2 h))
      clear hU hS hk hB
      rw [← HS.out] at HM
      go_wp2_with fail
      rw [rounds_succ]
      go_wp2_with fail
      go_roundw
      case rel => exact ⟨j + 1, by omega, by go_num, Lib.hid (Mem.sub HM.out (by repeat first | exact Sub.nil | refine Sub.cons (by with_reducible repeat first | exact ph | apply pt) ?_))⟩
      case measure => simp [intOf]; omega
    · obtain rfl : j = l.length := by omega
      rw [List.take_length] at HM
      go_wp2_with fail
      go_end0
      exact ⟨rfl, (HM.out.pick (r := cellsR b 196 [wV (crcL n l)]) (by with_reducible repeat first | exact ph | apply pt)).upd⟩
theorem more_any {A : Nat → Prop} (w : World) (s : Nat) (v : Value) (l : List UInt8) (hl : l.length ≤ 70368744177664) (hs : s < 4294967296) (h : Bytes w A v l) (hA : ∀ k, A k → k < w.heap.size) :
    Calls Tryz.prog 146 #[wV s, v] w fun e w' => e = .returned (wV (4294967295 - crcL (4294967295 - s) l)) ∧ Ext w w' := by
  have HM := Lib.hid (Mem.start0 w)
  have HB := Lib.hid h
  have HA := Lib.hid hA
  have hx := not_u32 hs
  have HLL := Lib.hid hl
  have hn : 4294967295 - s < 4294967296 := by omega
  have HN := Lib.hid hn
  clear h hs hA hl
  unfold wV
  go_enter Tryz.func146, Tryz.ntmps146
  go_wp2_with fail
  obtain ⟨b, hb⟩ : ∃ b, w.heap.size = b := ⟨_, rfl⟩
  have HBE := Lib.hid hb
  rw [hb]
  clear hb hx
  refine nxt HM fun w1 M => ?_
  clear HM; have HM := M; clear M
  rw [HBE.out] at HM
  obtain ⟨B, hB, hS⟩ := HM.out.step
  refine (take_any w1 b (4294967295 - s) v l HLL.out HN.out hB.2 (HB.out.ext HM.out.extTo) (fun k => by have := HA.out _ k; have := HBE.out; omega)).mono ?_
  rintro e w2 ⟨rfl, hU⟩
  replace HM := Lib.hid (hS _ _ (hU.mono fun k h => (hB.1 k).2 h))
  clear hU hS hB
  obtain ⟨m, hm⟩ : ∃ m, crcL (4294967295 - s) l = m := ⟨_, rfl⟩
  have hl : m < 4294967296 := by rw [← hm]; exact crcL_lt HN.out _
  have hy := not_u32 hl
  rw [hm] at HM
  have HQ := Lib.hid hm
  unfold wV at HM
  clear hm hl
  have fM := HM.out.fa
  go_wp2_with fail
  all_goals clear fM
  go_ret
  rw [HQ.out]
  exact ⟨rfl, HM.out.extTo⟩
theorem sum_any {A : Nat → Prop} (w : World) (q : Nat) (v : Value) (l : List UInt8) (hl : l.length ≤ 70368744177664) (hq : Box w q 30 [v]) (h : Bytes w A v l) (hA : ∀ k, A k → k < w.heap.size) :
    Calls Tryz.prog 123 #[.slice (some ⟨q, 0, none⟩) 1 1] w fun e w' => e = .returned (wV (crcS l)) ∧ Ext w w' := by
  have HB := Lib.hid h
  have HA := Lib.hid hA
  have HQ := Lib.hid hq
  have HLL := Lib.hid hl
  clear h hA hq hl
  obtain ⟨a, c, rfl⟩ := HB.out.len
  go_enter Tryz.func123, Tryz.ntmps123
  obtain ⟨cHQ, zHQ⟩ := HQ.out.reads
  have lHQ := HQ.out.lt
  go_wp2_with fail
  refine wp_loop_rounds 2 ?_
  rw [rounds_succ]
  go_wp2_with fail
  clear cHQ zHQ lHQ
  refine (more_any w 0 _ l HLL.out (by decide) HB.out HA.out).mono ?_
  rintro e w1 ⟨rfl, hE⟩
  have HE := Lib.hid hE
  clear hE
  go_wp2_with fail
  rw [rounds_succ]
  go_wp2_with fail
  go_ret
  exact ⟨rfl, HE.out⟩
theorem low4_cells (n : Nat) : (low4 n).map byV = [.int .u8 ((n : Int) % 256), .int .u8 ((n : Int) / 256 % 256), .int .u8 ((n : Int) / 65536 % 256), .int .u8 ((n : Int) / 16777216 % 256)] := by
  have h : ∀ m : Nat, byV (UInt8.ofNat m) = .int .u8 ((m : Int) % 256) := fun m => by
    unfold byV
    rw [UInt8.toNat_ofNat']
    rfl
  simp only [low4, List.map_cons, List.map_nil, h, Int.natCast_ediv]
  rfl
theorem low_any (w : World) (n : Nat) (hn : n < 4294967296) :
    Calls Tryz.prog 122 #[wV n] w fun e w' => e = .returned (.slice (some ⟨w.heap.size, 0, none⟩) 4 4) ∧ Box w' w.heap.size 5 ((low4 n).map byV) ∧ Ext w w' := by
  obtain ⟨w1, hr, hb, hE, hs⟩ := make_bytes w 4 (by decide) 4 rfl
  have HM := Lib.hid ((Mem.start0 w).new (r := cellsR w.heap.size 5 ((List.replicate 4 (0 : UInt8)).map byV)) (G := fun k => k = w.heap.size) hE ⟨fun _ => Iff.rfl, hb⟩ (fun k hk => by omega))
  have HN := Lib.hid hn
  clear hb hE hs hn
  unfold wV
  simp only [List.replicate, List.map_cons, List.map_nil, byV] at HM
  go_enter Tryz.func122, Tryz.ntmps122
  go_wp2_with fail
  obtain ⟨b, hb⟩ : ∃ b, w.heap.size = b := ⟨_, rfl⟩
  rw [hb]
  rw [hb] at HM
  have HBE := Lib.hid hb
  clear hb hr
  refine wp_loop_rounds 5 ?_
  rw [rounds_succ]
  have fM := HM.out.fa
  go_wp2_with fail
  all_goals clear fM
  refine nxt HM fun w2 M => ?_
  clear HM; have HM := M; clear M
  rw [rounds_succ]
  have fM := HM.out.fa
  go_wp2_with fail
  all_goals clear fM
  refine nxt HM fun w2 M => ?_
  clear HM; have HM := M; clear M
  rw [rounds_succ]
  have fM := HM.out.fa
  go_wp2_with fail
  all_goals clear fM
  refine nxt HM fun w2 M => ?_
  clear HM; have HM := M; clear M
  rw [rounds_succ]
  have fM := HM.out.fa
  go_wp2_with fail
  all_goals clear fM
  refine nxt HM fun w2 M => ?_
  clear HM; have HM := M; clear M
  rw [rounds_succ]
  have fM := HM.out.fa
  go_wp2_with fail
  all_goals clear fM
  go_ret
  rw [HBE.out]
  refine ⟨rfl, ?_, HM.out.extTo⟩
  rw [low4_cells]
  obtain ⟨Ahb, hb⟩ := HM.out.get (r := cellsR b 5 [.int .u8 ((n : Int) % 256), .int .u8 ((n : Int) / 256 % 256), .int .u8 ((n : Int) / 65536 % 256), .int .u8 ((n : Int) / 16777216 % 256)]) (by with_reducible repeat first | exact ph | apply pt)
  exact hb.2
end Go.Proofs.YtcfgnbbiljohjaaGreatDoor
end
section
/- slices.Grow, slices.Concat and bytes.Equal over byte slices: what they return, and that nothing that was there turns. Conditions: lengths below 2^46. -/
set_option linter.unusedVariables false
set_option linter.unusedSimpArgs false
set_option maxHeartbeats 400000
set_option maxRecDepth 10000
namespace Go.Proofs.YtcfgnbbiljohjaaGreatDoor
open Go.RowKit

theorem grow_any (n : Nat) (w : World) (hn : n ≤ 70368744177664) :
    Calls Tryz.prog 145 #[.slice none 0 0, .int .i64 (n : Int)] w fun e w' =>
      ∃ v', e = .returned v' ∧ w'.ownsRow w.heap.size 5 1 v' 0 [] ∧ Ext w w' := by
  obtain ⟨i0, hi, hz0, hz1, hz2⟩ := info_parts infoU8
  rcases Nat.eq_zero_or_pos n with h0 | h0
  · subst h0
    go_enter Tryz.func145, Tryz.ntmps145
    go_wp2
    go_ret
    exact ⟨_, rfl, World.ownsRow_nil _ _ _ _, Keeps.refl _ _⟩
  · obtain ⟨cap, w', hr, ho, hg, hc⟩ := run_append_zeros (P := Tryz.prog) w 30 3 30 5 i0 _ Tryz.underlying30 Tryz.underlying3 hi hz0 hz1 rfl hz2 n h0 hn
    have hc0 : (cap = 0) = False := by simp; omega
    have H : Hid (w'.ownsRow w.heap.size 5 1 (.slice (some ⟨w.heap.size, 0, none⟩) 0 cap) 0 []) := ho
    have HG : Hid (w.grownBy w' none) := hg
    clear ho hg
    go_enter Tryz.func145, Tryz.ntmps145
    go_wp2_with (at_builtin; refine wpList_append_ran rfl _ _ hr rfl rfl rfl ?_)
    go_ret
    exact ⟨_, rfl, H.out, Keeps.grown (Keeps.refl _ _) HG.out (fun k e => by cases e)⟩

def sumLen (ls : List (List UInt8)) : Nat := (ls.map List.length).sum
theorem sumLen_take_succ (ls : List (List UInt8)) (k : Nat) (h : k < ls.length) : sumLen (ls.take (k + 1)) = sumLen (ls.take k) + ls[k].length := by
  unfold sumLen; rw [List.take_succ_eq_append_getElem h, List.map_append, List.sum_append]; simp
theorem sumLen_take_le (ls : List (List UInt8)) (k : Nat) : sumLen (ls.take k) ≤ sumLen ls := by
  conv => rhs; rw [← List.take_append_drop k ls]
  unfold sumLen; rw [List.map_append, List.sum_append]; omega
theorem flat_take_succ (ls : List (List UInt8)) (k : Nat) (h : k < ls.length) : (ls.take (k + 1)).flatten = (ls.take k).flatten ++ ls[k] := by
  rw [List.take_succ_eq_append_getElem h, List.flatten_append]; simp
theorem flat_len (ls : List (List UInt8)) : ls.flatten.length = sumLen ls := by unfold sumLen; simp [List.length_flatten]

set_option maxHeartbeats 1000000 in
theorem concat_some (A : Nat → Prop) (b o n c : Nat) (ls : List (List UInt8)) (w : World) (hn : n = ls.length) (hnc : n ≤ 70368744177664) (hs : sumLen ls ≤ 70368744177664)
    (hc : ∀ i (h : i < ls.length), BytesAt w A b (o + i) ls[i]) :
    Calls Tryz.prog 121 #[.slice (some ⟨b, o, none⟩) n c] w fun e w' =>
      ∃ v', e = .returned v' ∧ Bytes w' (fun k => w.heap.size ≤ k ∧ k < w'.heap.size) v' ls.flatten ∧ Ext w w' ∧ Wr w' v' := by
  obtain ⟨i0, hi, hz0, hz1, hz2⟩ := info_parts infoU8
  have HC : Hid (∀ i (h : i < ls.length), BytesAt w A b (o + i) ls[i]) := hc
  clear hc
  have HN : Hid (n = ls.length) := hn
  clear hn
  go_enter Tryz.func121, Tryz.ntmps121
  go_wp2_with fail
  go_loop [3, 11] (fun t i => ∃ k : Nat, k ≤ n ∧ i = .int .i64 k ∧ t = .int .i64 (sumLen (ls.take k) : Nat)) (fun _ i => n - (intOf i).toNat)
  case atStart => exact ⟨0, Nat.zero_le _, rfl, by simp [sumLen]⟩
  case round =>
    obtain ⟨k, hk, rfl, rfl⟩ := hrel
    by_cases hlt : k < n
    · have hk' : k < ls.length := by have := HN.out; omega
      obtain ⟨v, hv1, hv2⟩ := HC.out k hk'
      obtain ⟨a1, c1, rfl⟩ := hv2.len
      have h1 := sumLen_take_succ ls k hk'
      have h2 := sumLen_take_le ls (k + 1)
      have h3 : sumLen (ls.take k) + ls[k].length ≤ 70368744177664 := by omega
      have H1 : Hid (sumLen (ls.take (k + 1)) = sumLen (ls.take k) + ls[k].length) := h1
      clear h1 h2 hv2
      go_wp2_with fail
      all_goals
        go_round
        case rel => exact ⟨k + 1, by omega, by go_num, by rw [H1.out]; simp⟩
        case measure => simp [intOf]; omega
    · obtain rfl : n = k := by omega
      have H3 : Hid (sumLen (ls.take n) = sumLen ls) := by show _ = _; rw [List.take_of_length_le (by have := HN.out; omega)]
      go_wp2_with fail
      rw [H3.out]
      refine (grow_any _ _ (by omega)).mono ?_
      rintro e w1 ⟨v', rfl, ho, hk1⟩
      have HO : Hid (w1.ownsRow w.heap.size 5 1 v' 0 []) := ho
      have HK : Hid (Ext w w1) := hk1
      clear ho hk1
      go_wp2_with fail
      go_loopw [6, 27] (fun t i wr => ∃ k : Nat, k ≤ n ∧ i = .int .i64 k ∧ wr.ownsRow w.heap.size 5 1 t (sumLen (ls.take k)) ((ls.take k).flatten.map byV) ∧ Ext w wr) (fun _ i _ => n - (intOf i).toNat)
      case atStart => exact ⟨0, Nat.zero_le _, rfl, by simpa [sumLen] using HO.out, HK.out⟩
      case round =>
        obtain ⟨k, hk, rfl, ho, he⟩ := hrel
        by_cases hlt : k < n
        · have hk' : k < ls.length := by have := HN.out; omega
          obtain ⟨x, hx1, hx2⟩ := HC.out k hk'
          have hx1' := he.cell hx1
          have h1 := sumLen_take_succ ls k hk'
          have h2 := sumLen_take_le ls (k + 1)
          obtain ⟨v2, w2, hr, ho2, hg2, _⟩ := run_append_src (P := Tryz.prog) wr w.heap.size 30 30 5 i0 _ 1 1 Tryz.underlying30 hi hz0 hz1 hz2 rfl (by decide) _ _ _ ho x _ _ (hx2.ext he).src (by simp) (byV_one _) (by simp [maxLen]; omega) (by omega) he.size
          have H1 : Hid (w2.ownsRow w.heap.size 5 1 v2 (sumLen (ls.take (k + 1))) ((ls.take (k + 1)).flatten.map byV)) := by
            show World.ownsRow _ _ _ _ _ _ _
            rw [h1, flat_take_succ ls k hk', List.map_append]; exact ho2
          have H2 : Hid (Ext w w2) := he.grown hg2 (fun q e => .inr (ho.lt q e).1)
          clear h1 h2 ho2 hg2 ho he hx2 hx1
          go_wp2_with (at_builtin; refine wpList_append_ran rfl _ _ hr rfl rfl rfl ?_)
          go_roundw
          case rel => exact ⟨k + 1, by omega, by go_num, H1.out, H2.out⟩
          case measure => simp [intOf]; omega
        · obtain rfl : n = k := by omega
          have HO' : Hid (wr.ownsRow w.heap.size 5 1 u6 (sumLen (ls.take n)) ((ls.take n).flatten.map byV)) := ho
          have HK' : Hid (Ext w wr) := he
          clear ho he
          go_wp2_with fail
          go_ret
          refine ⟨_, rfl, ?_, HK'.out, Wr.of_owns HO'.out⟩
          have h := HO'.out
          rw [List.take_of_length_le (by have := HN.out; omega)] at h
          exact Bytes.of_owns h
end Go.Proofs.YtcfgnbbiljohjaaGreatDoor
end
