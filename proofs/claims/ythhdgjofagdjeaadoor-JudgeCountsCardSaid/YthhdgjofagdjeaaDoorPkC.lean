/- Texts RowB, Auto, Signs, Laid, MapI, JA, JB, JC, JD, one behind the other. Conditions: as each says. -/
import Derived.Test.YthhdgjofagdjeaaDoorPkB
import Derived.Lib.TrimUEq
import Derived.Lib.ValidLaws
import Derived.Test.YthhdgjofagdjeaaDoorCards
import Derived.Test.YthhdgjofagdjeaaDoorTie
import Derived.SevenTiedAt
import Derived.LaidLaws
import Derived.LaidHandle
import Derived.Lib.LaidIn
import Derived.Lib.LaidU8T
import Derived.PinnedBridge
import Derived.Deep.DeepHandedRow
import Derived.Deep.DeepWitnessRowRef
import Derived.JoinedOf
import Derived.Test.YthhdgjofagdjeaaDoorRows
import Derived.DeepKeys5
import Derived.Maps.Own
section
/- Appends onto slices that were made since a world, as lists ('Enc'); a region's own things joined to those of before. No program is named here. -/
set_option linter.unusedVariables false
set_option linter.unusedSimpArgs false
namespace Go.Proofs.YthhdgjofagdjeaaDoor
open Go.RowKit
section
variable {α : Type} {E : Enc α} {P : Program} {W w : World} {v : Value} {l : List α}
/-- a slice of elements that may be read; base: its block lies there or above -/
def RowAt (E : Enc α) (w : World) (base : Nat) (v : Value) (l : List α) : Prop := Win w base E.sz v l.length (E.row l)
theorem RowAt.ext {w' : World} {base : Nat} (h : RowAt E w base v l) (e : Ext w w') : RowAt E w' base v l := Win.ext h e
theorem RowAt.len {base : Nat} (h : RowAt E w base v l) : ∃ a c, v = .slice a l.length c := Win.len h
theorem RowAt.mono {base base' : Nat} (h : RowAt E w base v l) (hb : base' ≤ base) : RowAt E w base' v l := Win.mono h hb
theorem RowAt.at {base c : Nat} {a : Option Addr} (h : RowAt E w base (.slice a l.length c) l) (k : Nat) (hk : k < l.length) :
    ∃ g o, a = some ⟨g, o, none⟩ ∧ g < w.heap.size ∧ ∀ j, j < E.sz → w.cell? ⟨g, o + k * E.sz + j, none⟩ = (E.cells l[k])[j]? := by
  obtain ⟨g, o, cap, hv, -, hg, -, h4⟩ := Win.form h (by omega)
  cases hv
  refine ⟨g, o, rfl, hg, fun j hj => ?_⟩
  have h5 := E.row_get l k j hk hj
  have h6 : j < (E.cells l[k]).length := by rw [E.len]; exact hj
  rw [List.getElem?_eq_getElem h6] at h5 ⊢
  have := h4 _ _ h5
  rw [← Nat.add_assoc] at this
  exact this
theorem fresh_append (t tx ty e : TypeId) (i : TypeInfo) (z : Value) (bytes : Nat) (ht : P.underlying t = some (.slice e)) (htx : P.underlying tx = some (.slice e)) (hi : P.info? e = some i) (hz : i.zero = some z)
    (hsize : i.size = E.sz) (hby : i.bytes = bytes) (hzs : z.cells.size = E.sz) (hE : Ext W w) (hw : RowAt E w W.heap.size v l) (x : Value) (l' : List α) (hs : SrcCells w x l'.length (E.row l'))
    (h63 : l.length + l'.length ≤ maxLen) (hbytes : (l.length + l'.length) * bytes ≤ 140737488355328) :
    ∃ v' w', (Builtin.append_ #[t, tx] ty #[v, x]).run P w = .ok v' w' ∧ RowAt E w' W.heap.size v' (l ++ l') ∧ Ext W w' := by
  obtain ⟨v', w', hr, hw', hk, ho⟩ := run_append_win w W.heap.size t tx ty e i z E.sz bytes ht hi hz hsize hby hzs v l.length (E.row l) hw x l'.length (E.row l') (hs.toSrc htx (E.row_len l') (E.row_one l')) h63 hbytes hE.size
  refine ⟨v', w', hr, ?_, hE.then hk fun k hk h => ?_⟩
  · unfold RowAt
    rw [E.row_append, List.length_append]
    exact hw'
  · have := (Win.block hw k h).1
    omega
theorem RowAt.empty {g : Nat} (hb : W.heap.size ≤ g) (hg : g < w.heap.size) : RowAt E w W.heap.size (.slice (some ⟨g, 0, none⟩) 0 0) [] := Win.empty hb hg
theorem RowAt.src {base : Nat} (h : RowAt E w base v l) : SrcCells w v l.length (E.row l) := Win.src h
theorem one_src {g c : Nat} {x : α} (hb : ∀ o, w.cell? ⟨g, o, none⟩ = (E.cells x)[o]?) : SrcCells w (.slice (some ⟨g, 0, none⟩) 1 c) [x].length (E.row [x]) := .inr ⟨_, _, rfl, fun j u hu => by
  have : E.row [x] = E.cells x := by rw [Enc.row, Enc.row, List.append_nil]
  rw [this] at hu
  rw [← hu, ← hb j]
  by_cases hj : j = 0
  · subst hj; rfl
  · simp [Addr.add, hj]⟩
theorem RowAt.res {base : Nat} (h : RowAt E w base v l) : (rowR E v l).p (Own v) w := ⟨fun k => Iff.rfl, Win.mono h (Nat.zero_le _)⟩
/-- a row that is new, among the things of memory -/
theorem Mem.newRow {F : Nat → Prop} {w0 : World} {L : List Res} (h : Mem F w0 W L) (e : Ext W w) (hr : RowAt E w W.heap.size v l) : Mem F w0 w (rowR E v l :: L) :=
  h.new (r := rowR E v l) (G := Own v) e hr.res fun k hk => (Win.block hr k hk).1
theorem Upd.row {w0 : World} (h : Upd NoB w0 w (rowR E v l)) : RowAt E w w0.heap.size v l ∧ Ext w0 w := by
  obtain ⟨F', ⟨h1, h2⟩, h3, h4⟩ := h
  refine ⟨?_, h3⟩
  obtain ⟨h0, h5 | ⟨g, o, cap, a1, a2, a3⟩⟩ := h2
  · exact ⟨h0, .inl h5⟩
  · refine ⟨h0, .inr ⟨g, o, cap, a1, ?_, a3⟩⟩
    rcases h4 g ((h1 g).2 (by rw [a1]; rfl)) with h | h
    · exact (noB _ h).elim
    · exact h
/-- an append onto a thing of memory, in a region: what turned was made since W -/
theorem Mem.rowUp {F : Nat → Prop} {w0 : World} {L : List Res} {r : Res} (t tx ty e : TypeId) (i : TypeInfo) (z : Value) (bytes : Nat) (ht : P.underlying t = some (.slice e)) (htx : P.underlying tx = some (.slice e)) (hi : P.info? e = some i) (hz : i.zero = some z)
    (hsize : i.size = E.sz) (hby : i.bytes = bytes) (hzs : z.cells.size = E.sz) (h : Mem F w0 w (r :: L)) (hrow : ∀ A, r.p A w → RowAt E w 0 v l ∧ ∀ k, Own v k → A k) (hE : Ext W w) (hn : ∀ k, Own v k → W.heap.size ≤ k) (x : Value) (l' : List α) (hs : SrcCells w x l'.length (E.row l'))
    (h63 : l.length + l'.length ≤ maxLen) (hbytes : (l.length + l'.length) * bytes ≤ 140737488355328) :
    ∃ v' w', (Builtin.append_ #[t, tx] ty #[v, x]).run P w = .ok v' w' ∧ Mem F w0 w' (rowR E v' (l ++ l') :: L) ∧ Ext W w' ∧ ∀ k, Own v' k → W.heap.size ≤ k := by
  obtain ⟨A, hA, hS⟩ := h.step
  obtain ⟨hw, hO⟩ := hrow A hA
  obtain ⟨v', w', hr, hw', hk, ho⟩ := run_append_win w 0 t tx ty e i z E.sz bytes ht hi hz hsize hby hzs v l.length (E.row l) hw x l'.length (E.row l') (hs.toSrc htx (E.row_len l') (E.row_one l')) h63 hbytes (Nat.zero_le _)
  have hk' : Keeps (Own v) w w' := hk
  refine ⟨v', w', hr, hS _ _ ⟨Own v', ⟨fun k => Iff.rfl, ?_⟩, hk'.mono fun k _ h => hO k h, fun k hk => ?_⟩, hE.then hk' fun k hk h => ?_, fun k hk => ?_⟩
  · show Win w' 0 E.sz v' (l ++ l').length (E.row (l ++ l'))
    rw [E.row_append, List.length_append]
    exact hw'
  · rcases ho with h1 | h1
    · exact .inl (hO k (by unfold Own at hk ⊢; rw [← h1]; exact hk))
    · refine .inr ?_
      have hk : v'.ownBlock = some k := hk
      rw [h1] at hk
      have := Option.some.inj hk; omega
  · have := hn k h; omega
  · rcases ho with h1 | h1
    · exact hn k (by unfold Own at hk ⊢; rw [← h1]; exact hk)
    · have hk : v'.ownBlock = some k := hk
      rw [h1] at hk
      have := Option.some.inj hk
      have := hE.size
      omega
theorem row_of_empty {g : Nat} {t : TypeId} {A : Nat → Prop} (h : (cellsR g t []).p A w) : RowAt E w 0 (.slice (some ⟨g, 0, none⟩) 0 0) [] ∧ ∀ k, Own (.slice (some ⟨g, 0, none⟩) 0 0) k → A k :=
  ⟨Win.empty (Nat.zero_le _) h.2.lt, fun k hk => (h.1 k).2 (Option.some.inj (show some g = some k from hk)).symm⟩
theorem row_of_row {A : Nat → Prop} (h : (rowR E v l).p A w) : RowAt E w 0 v l ∧ ∀ k, Own v k → A k := ⟨h.2, fun k hk => (h.1 k).2 hk⟩
theorem own_at {g n c : Nat} {o : Nat} {B : Nat} (h : B ≤ g) : ∀ k, Own (.slice (some ⟨g, o, none⟩) n c) k → B ≤ k := fun k hk => by
  have : some g = some k := hk
  cases this; exact h
theorem RowAt.keeps {base : Nat} {S : Nat → Prop} {w' : World} (h : RowAt E w base v l) (hk : Keeps S w w') (hs : ∀ k, Own v k → ¬ S k) : RowAt E w' base v l := Win.keeps h hk hs
end
section
variable {P : Program} {ops : Array Oper} {o : Oper} {a : Act} {w' w0 wr : World} {Q : Exit → Act → World → Prop} {F : Nat → Prop} {L : List Res} {K : Act → World → Prop}
/-- in a region that draws its order: the world that an operation meets, named -/
theorem Mem.oper (h : Mem F w0 w' L) (h2 : Ext wr w') (k : ∀ w, Mem F w0 w L → Ext wr w → Oper.wp P o a w K Q) : Oper.wp P o a w' K Q := k _ h h2
theorem Mem.listE {l : List Oper} (h : Mem F w0 w' L) (h2 : Ext wr w') (k : ∀ w, Mem F w0 w L → Ext wr w → wpList P ops Q l a w) : wpList P ops Q l a w' := k _ h h2
end
end Go.Proofs.YthhdgjofagdjeaaDoor
end
section
/- Steps of a walk over 'Mem' whose side conditions Lean's instances find: which world is reached, which block lies there, what blocks read. No program is named here. -/
set_option linter.unusedVariables false
set_option linter.unusedSimpArgs false
namespace Go.Proofs.YthhdgjofagdjeaaDoor
open Go.RowKit
class Sz (w : World) (n : outParam Nat) : Prop where
  out : w.heap.size = n
instance (priority := low) szB (w : World) : Sz w w.heap.size := ⟨rfl⟩
instance szA (w : World) (o : Obj) (n : Nat) [h : Sz w n] : Sz (w.alloc o) (n + 1) := ⟨by rw [World.size_alloc, h.out]⟩
instance szS (w : World) (a : Addr) (v : Value) (n : Nat) [h : Sz w n] : Sz (w.setCell a v) n := ⟨by rw [World.size_setCell, h.out]⟩
instance szD (w : World) (n : Nat) [h : Sz w n] : Sz w.drew n := ⟨h.out⟩
class St' (cs : List Value) (o : Nat) (v : Value) (cs' : outParam (List Value)) : Prop where
  out : cs.set o v = cs'
instance (priority := low) stB (cs : List Value) (o : Nat) (v : Value) : St' cs o v (cs.set o v) := ⟨rfl⟩
instance st0 (a : Value) (l : List Value) (v : Value) : St' (a :: l) 0 v (v :: l) := ⟨rfl⟩
instance stS (a : Value) (l l' : List Value) (n : Nat) (v : Value) [h : St' l n v l'] : St' (a :: l) (n + 1) v (a :: l') := ⟨by rw [List.set_cons_succ, h.out]⟩
/-- the block b among some things -/
class PkB (L : List Res) (b : Nat) (t : outParam TypeId) (cs : outParam (List Value)) (L' : outParam (List Res)) : Prop where
  out : Pick L (cellsR b t cs) L'
instance (priority := high) pkb0 (b : Nat) (t : TypeId) (cs : List Value) (L : List Res) : PkB (cellsR b t cs :: L) b t cs L := ⟨.here⟩
instance pkbS (x : Res) (L L' : List Res) (b : Nat) (t : TypeId) (cs : List Value) [h : PkB L b t cs L'] : PkB (x :: L) b t cs (x :: L') := ⟨.there h.out⟩
/-- a thing among some -/
class Pk (L : List Res) (r : Res) (L' : outParam (List Res)) : Prop where
  out : Pick L r L'
instance (priority := high) pk0 (r : Res) (L : List Res) : Pk (r :: L) r L := ⟨.here⟩
instance pkS (x r : Res) (L L' : List Res) [h : Pk L r L'] : Pk (x :: L) r (x :: L') := ⟨.there h.out⟩
theorem pk {L L' : List Res} {r : Res} [h : Pk L r L'] : Pick L r L' := h.out
/-- what some things come to on the way from one world to another -/
class Wo (w : World) (L : List Res) (w' : World) (L' : outParam (List Res)) : Prop where
  out : ∀ F w0, Mem F w0 w L → Mem F w0 w' L'
instance (priority := high) wo0 (w : World) (L : List Res) : Wo w L w L := ⟨fun _ _ h => h⟩
instance woD (w : World) (L : List Res) (w' : World) (L' : List Res) [h : Wo w L w' L'] : Wo w L w'.drew L' := ⟨fun _ _ m => (h.out _ _ m).drew⟩
instance woA (w : World) (L : List Res) (w' : World) (L' : List Res) (cs : List Value) (t : TypeId) (n : Nat) [h : Wo w L w' L'] [s : Sz w' n] : Wo w L (w'.alloc (.cells cs.toArray t)) (cellsR n t cs :: L') := ⟨fun _ _ m => (h.out _ _ m).alloc s.out⟩
instance (priority := low) woO (w : World) (L : List Res) (w' : World) (L' : List Res) (o : Obj) [h : Wo w L w' L'] : Wo w L (w'.alloc o) L' := ⟨fun _ _ m => (h.out _ _ m).allocO⟩
instance woS (w : World) (L : List Res) (w' : World) (L1 L2 : List Res) (b o : Nat) (v : Value) (t : TypeId) (cs cs' : List Value) [h : Wo w L w' L1] [p : PkB L1 b t cs L2] [s : St' cs o v cs'] : Wo w L (w'.setCell ⟨b, o, none⟩ v) (cellsR b t cs' :: L2) :=
  ⟨fun _ _ m => by rw [← s.out]; exact (h.out _ _ m).set p.out⟩
/-- what the blocks of some things read -/
class Ap (b : Nat) (L : List Res) (p : outParam Prop) : Prop where
  out : ∀ w G, SepL L G w → ¬ G b → p
instance ap0 (b : Nat) : Ap b [] True := ⟨fun _ _ _ _ => trivial⟩
instance apC (b c : Nat) (t : TypeId) (cs : List Value) (L : List Res) (p : Prop) [h : Ap b L p] : Ap b (cellsR c t cs :: L) (¬ b = c ∧ ¬ c = b ∧ p) :=
  ⟨fun w G ⟨A, B, h1, h2, h3, h4⟩ hG => ⟨fun e => hG ((h4 b).2 (.inl ((h1.1 b).2 e))), fun e => hG ((h4 b).2 (.inl ((h1.1 b).2 e.symm))), h.out w B h2 fun hB => hG ((h4 b).2 (.inr hB))⟩⟩
instance (priority := low) apR (b : Nat) (r : Res) (L : List Res) (p : Prop) [h : Ap b L p] : Ap b (r :: L) p :=
  ⟨fun w G ⟨A, B, h1, h2, h3, h4⟩ hG => h.out w B h2 fun hB => hG ((h4 b).2 (.inr hB))⟩
class Fa (w : World) (L : List Res) (p : outParam Prop) : Prop where
  out : ∀ G, SepL L G w → p
instance fa0 (w : World) : Fa w [] True := ⟨fun _ _ => trivial⟩
instance faC (w : World) (b : Nat) (t : TypeId) (cs : List Value) (L : List Res) (q p : Prop) [h : Ap b L q] [g : Fa w L p] :
    Fa w (cellsR b t cs :: L) ((∀ o, w.cell? ⟨b, o, none⟩ = cs[o]?) ∧ (∀ o, w.frozen? ⟨b, o, none⟩ = false) ∧ b < w.heap.size ∧ q ∧ p) :=
  ⟨fun G ⟨A, B, h1, h2, h3, h4⟩ => ⟨h1.2.reads.1, h1.2.reads.2, h1.2.lt, h.out w B h2 (h3 b ((h1.1 b).2 rfl)), g.out B h2⟩⟩
instance (priority := low) faR (w : World) (r : Res) (L : List Res) (p : Prop) [g : Fa w L p] : Fa w (r :: L) p := ⟨fun G ⟨A, B, h1, h2, h3, h4⟩ => g.out B h2⟩
/-- a goal at a world -/
class Gl (p : Prop) (G : outParam (World → Prop)) (w : outParam World) : Prop where
  out : G w → p
instance gl1 (P : Program) (f : FuncId) (args : Array Value) (K : Ending → World → Prop) (w : World) : Gl (Calls P f args w K) (fun w => Calls P f args w K) w := ⟨id⟩
instance gl2 (P : Program) (ops : Array Oper) (Q : Exit → Act → World → Prop) (l : List Oper) (a : Act) (w : World) : Gl (Stopped (wpList P ops Q l a w)) (fun w => Stopped (wpList P ops Q l a w)) w := ⟨id⟩
instance gl3 (P : Program) (ops : Array Oper) (Q : Exit → Act → World → Prop) (l : List Oper) (a : Act) (w : World) : Gl (wpList P ops Q l a w) (fun w => wpList P ops Q l a w) w := ⟨id⟩
instance gl4 (P : Program) (c : Code) (Q : Exit → Act → World → Prop) (a : Act) (w : World) : Gl (c.wp P Q a w) (fun w => c.wp P Q a w) w := ⟨id⟩
instance gl5 (P : Program) (fn : Func) (R : Ending → World → Prop) (e : Exit) (a : Act) (w : World) : Gl (bodyPostD P fn R e a w) (fun w => bodyPostD P fn R e a w) w := ⟨id⟩
instance gl6 (P : Program) (fn : Func) (R : Ending → World → Prop) (e : Exit) (a : Act) (w : World) : Gl (bodyPost P fn R e a w) (fun w => bodyPost P fn R e a w) w := ⟨id⟩
instance gl7 (F : Nat → Prop) (w0 : World) (r : Res) (w : World) : Gl (Upd F w0 w r) (fun w => Upd F w0 w r) w := ⟨id⟩
section
variable {F : Nat → Prop} {w0 w w' w1 : World} {L L' L1 L2 : List Res} {p : Prop}
theorem Mem.to (m : Mem F w0 w L) [h : Wo w L w' L'] : Mem F w0 w' L' := h.out _ _ m
theorem Mem.fa (m : Mem F w0 w L) [h : Fa w L p] : p := let ⟨_, G, s, _⟩ := m; h.out G s
theorem nxt {G : World → Prop} [g : Gl p G w'] (m : Hid (Mem F w0 w L)) [h : Wo w L w' L'] (k : ∀ w, Hid (Mem F w0 w L') → G w) : p := g.out (k _ (Lib.hid m.out.to))
end
/-- a block of many cells -/
class Wd (n : Nat) (cs : List Value) : Prop where
  len : cs.length = n
  one : ∀ u ∈ cs, u.oneCell' = true
class One (v : Value) : Prop where
  out : v.oneCell' = true
instance oneI (k : IntKind) (n : Int) : One (.int k n) := ⟨rfl⟩
instance oneB (b : Bool) : One (.bool b) := ⟨rfl⟩
instance oneT (s : ByteArray) : One (.string s) := ⟨rfl⟩
instance oneP (a : Option Addr) : One (.pointer a) := ⟨rfl⟩
instance oneL (a : Option Addr) (n c : Nat) : One (.slice a n c) := ⟨rfl⟩
instance oneM (m : Option Nat) : One (.map m) := ⟨rfl⟩
instance wdS (n : Nat) (cs : List Value) (i : Nat) (v : Value) [h : Wd n cs] [g : One v] : Wd n (cs.set i v) := ⟨by rw [List.length_set, h.len], one_set h.one g.out i⟩
section
variable {P : Program} {ops : Array Oper} {rest : List Oper} {o : Oper} {a : Act} {w w0 w1 : World} {Q : Exit → Act → World → Prop} {F : Nat → Prop} {L L1 L2 : List Res} {d : TypeDesc} {b n : Nat} {t : TypeId} {cs vs : List Value}
theorem lvW (ty : TypeId) (m : Mem F w0 w1 L) [Wo w1 L w L1] [p : PkB L1 b t cs L2] (hu : P.underlying ty = some d) (hd : (match d with | .struct _ | .array _ _ => true | _ => false) = true) (hi : (P.info? ty).map (·.size) = some n) [q : Wd n cs] :
    (loadVar ty ⟨b, 0, none⟩).run P w = .ok (.agg cs.toArray) w := loadVar_wide ty (m.to (w' := w)) p.out hu hd (hi.trans (congrArg some q.len.symm))
theorem elW (ty : TypeId) (x : Operand) (ho : o.op = .load ty x) (hx : a.eval x = .pointer (some ⟨b, 0, none⟩)) (m : Mem F w0 w1 L) [Wo w1 L w L1] [p : PkB L1 b t cs L2] (hu : P.underlying ty = some d) (hd : (match d with | .struct _ | .array _ _ => true | _ => false) = true) (hi : (P.info? ty).map (·.size) = some n) [q : Wd n cs] :
    (execOp a.eval o).run P w = .ok (.value (.agg cs.toArray)) w := by
  have := lvW (w := w) (b := b) (t := t) (cs := cs) (L1 := L1) (L2 := L2) ty m hu hd hi
  simp [execOp, ho, hx, Instr.loadAt, Instr.sureAddr, Sem.run_bind, Result.andThen, this]
theorem ldW (ty : TypeId) (x : Operand) (ho : o.op = .load ty x) (hw : Region.wanted o (yielded ops a.tmps) = true) (hx : a.eval x = .pointer (some ⟨b, 0, none⟩)) (m : Mem F w0 w1 L) [Wo w1 L w L1] [p : PkB L1 b t cs L2] (hu : P.underlying ty = some d)
    (hd : (match d with | .struct _ | .array _ _ => true | _ => false) = true) (hi : (P.info? ty).map (·.size) = some n) [q : Wd n cs] (k : wpList P ops Q rest (a.put o.dst (.agg cs.toArray)) w) : wpList P ops Q (o :: rest) a w := by
  have h2 := elW (w := w) ty x ho hx m hu hd hi
  unfold wpList
  rw [if_pos hw]
  refine .inl ?_
  unfold Oper.wp
  rw [h2]
  exact k
theorem stW (ty : TypeId) (x y : Operand) (ho : o.op = .store ty x y) (hg : o.guard = none) (hx : a.eval x = .pointer (some ⟨b, 0, none⟩)) (hy : a.eval y = .agg vs.toArray) (m : Mem F w0 w1 L) [Wo w1 L w L1] [p : PkB L1 b t cs L2] (hi : (P.info? ty).map (·.size) = some n)
    [q : Wd n cs] [g : Wd n vs] (k : ∀ w', Mem F w0 w' (cellsR b t vs :: L2) → wpList P ops Q rest (a.put o.dst undef) w') : wpList P ops Q (o :: rest) a w :=
  mem_store_wide ty x y ho hg hx hy (m.to (w' := w)) p.out hi g.len q.len g.one k
theorem boW (ty : TypeId) (x : Operand) (ho : o.op = .box ty x) (hg : o.guard = none) (hx : a.eval x = .agg vs.toArray) (m : Mem F w0 w1 L) [Wo w1 L w L1]
    (k : ∀ w' n, Mem F w0 w' (cellsR n ty vs :: L1) → wpList P ops Q rest (a.put o.dst (.pointer (some ⟨n, 0, none⟩))) w') : wpList P ops Q (o :: rest) a w := mem_box_wide ty x ho hg hx (m.to (w' := w)) k
theorem alW (ty : TypeId) (ho : o.op = .alloc ty) (hg : o.guard = none) (hz : (zeroValue ty).run P w = .ok (.agg vs.toArray) w) (m : Mem F w0 w1 L) [Wo w1 L w L1]
    (k : ∀ w' n, Mem F w0 w' (cellsR n ty vs :: L1) → wpList P ops Q rest (a.put o.dst (.pointer (some ⟨n, 0, none⟩))) w') : wpList P ops Q (o :: rest) a w := mem_alloc_wide ty ho hg hz (m.to (w' := w)) k
theorem oaW {wr : World} {K : Act → World → Prop} (ty : TypeId) (ho : o.op = .alloc ty) (hz : (zeroValue ty).run P w = .ok (.agg vs.toArray) w) (m : Mem F w0 w1 L) [Wo w1 L w L1] (he : Ext wr w)
    (k : ∀ w' n, Mem F w0 w' (cellsR n ty vs :: L1) → Ext wr w' → K (a.put o.dst (.pointer (some ⟨n, 0, none⟩))) w') : Oper.wp P o a w K Q := by
  have hb := Box.new w ty vs
  have he' : Ext w (w.alloc (.cells vs.toArray ty)) := (Keeps.refl _ _).alloc _
  unfold Oper.wp
  have : (execOp a.eval o).run P w = .ok (.value (.pointer (some ⟨w.heap.size, 0, none⟩))) (w.alloc (.cells vs.toArray ty)) := by simp [execOp, ho, Instr.alloc, hz, newVar, newRow, Value.cells, Result.andThen]
  rw [this]
  exact k _ _ ((m.to (w' := w)).new (G := fun k => k = w.heap.size) he' ⟨fun k => Iff.rfl, hb⟩ (fun k hk => by omega)) (he.ext he')
theorem rtW {fn : Func} {r s : Nat} (ty : TypeId) (hr : fn.results = #[.cell r ty, .tmp s]) (tmps : Array Value) (h0 : tmps.getD r undef = .pointer (some ⟨b, 0, none⟩)) (m : Mem F w0 w1 L) [Wo w1 L w L1] [p : PkB L1 b t cs L2] (hu : P.underlying ty = some d)
    (hd : (match d with | .struct _ | .array _ _ => true | _ => false) = true) (hi : (P.info? ty).map (·.size) = some n) [q : Wd n cs] : (results fn tmps).run P w = .ok (.tuple #[.agg cs.toArray, tmps.getD s undef]) w :=
  results_ct hr tmps h0 (lvW ty m hu hd hi)
variable {C : World → Prop} {tail : Act → World → Prop} {r : List (Nat × Oper)} {v : Value}
theorem pM (x : Operand) (hw : Region.wanted o (yielded ops a.tmps) = true) (h : o.op = .move x) (k : Pl P ops Q C tail r (a.put o.dst (a.eval x)) w) : Pl P ops Q C tail ((0, o) :: r) a w := plan_pure hw fun K hK => quiet_move' x h (hK _ k)
theorem pA (x : Operand) (hw : Region.wanted o (yielded ops a.tmps) = true) (h : o.op = .assign x) (k : Pl P ops Q C tail r (a.put o.dst (a.eval x)) w) : Pl P ops Q C tail ((0, o) :: r) a w := plan_pure hw fun K hK => quiet_assign' x h (hK _ k)
theorem pR (hw : Region.wanted o (yielded ops a.tmps) = true) (h : ∀ w, (execOp a.eval o).run P w = .ok (.value v) w) (k : Pl P ops Q C tail r (a.put o.dst v) w) : Pl P ops Q C tail ((0, o) :: r) a w := plan_pure hw fun K hK => quiet_run v (fun w _ => h w) (hK _ k)
theorem pX (hw : Region.wanted o (yielded ops a.tmps) = true) (h : (execOp a.eval o).run P w = .ok (.value v) w) (k : Pl P ops Q C tail r (a.put o.dst v) w) : Pl P ops Q C tail ((3, o) :: r) a w := plan_exact hw fun K hK => quiet_runX v h (hK _ k)
theorem pL {wr : World} (hw : Region.wanted o (yielded ops a.tmps) = true) (h : ∀ y : ExtW wr, (execOp a.eval o).run P y.w = .ok (.value v) y.w) (k : Pl P ops Q (ClsE wr) tail r (a.put o.dst v) w) : Pl P ops Q (ClsE wr) tail ((1, o) :: r) a w := plan_load hw fun K hK => quiet_runE v h (hK _ k)
theorem pK {wr : World} {S : Nat → Prop} (hw : Region.wanted o (yielded ops a.tmps) = true) (h : ∀ y : KeepsW S wr, (execOp a.eval o).run P y.w = .ok (.value v) y.w) (k : Pl P ops Q (ClsK S wr) tail r (a.put o.dst v) w) : Pl P ops Q (ClsK S wr) tail ((1, o) :: r) a w := plan_load hw fun K hK => quiet_runK v h (hK _ k)
theorem pXW (ty : TypeId) (x : Operand) (hw : Region.wanted o (yielded ops a.tmps) = true) (ho : o.op = .load ty x) (hx : a.eval x = .pointer (some ⟨b, 0, none⟩)) (m : Mem F w0 w1 L) [Wo w1 L w L1] [p : PkB L1 b t cs L2] (hu : P.underlying ty = some d)
    (hd : (match d with | .struct _ | .array _ _ => true | _ => false) = true) (hi : (P.info? ty).map (·.size) = some n) [q : Wd n cs] (k : Pl P ops Q C tail r (a.put o.dst (.agg cs.toArray)) w) : Pl P ops Q C tail ((3, o) :: r) a w := pX hw (elW ty x ho hx m hu hd hi) k
theorem pLW {wr : World} (ty : TypeId) (x : Operand) (hw : Region.wanted o (yielded ops a.tmps) = true) (ho : o.op = .load ty x) (hx : a.eval x = .pointer (some ⟨b, 0, none⟩)) (m : Mem F w0 wr L) [p : PkB L b t cs L2] (hu : P.underlying ty = some d)
    (hd : (match d with | .struct _ | .array _ _ => true | _ => false) = true) (hi : (P.info? ty).map (·.size) = some n) [q : Wd n cs] (k : Pl P ops Q (ClsE wr) tail r (a.put o.dst (.agg cs.toArray)) w) : Pl P ops Q (ClsE wr) tail ((1, o) :: r) a w :=
  pL hw (fun y => elW ty x ho hx (m.ext y.h) hu hd hi) k
end
/-- a region's operations by number, as rules -/
theorem nL : (∀ (l : List Oper) (i : Nat), l.toArray[i]? = l[i]?) ∧ (∀ (a : Oper) (l : List Oper), (a :: l)[0]? = some a) ∧ (∀ (a : Oper) (l : List Oper) (n : Nat), (a :: l)[n + 1]? = l[n]?) := ⟨fun _ _ => by simp, fun _ _ => rfl, fun _ _ _ => rfl⟩
end Go.Proofs.YthhdgjofagdjeaaDoor
end
section
/- The signs of a text, byte by byte, as the document counts them, and as the model decodes them. No program is named here. -/
set_option linter.unusedVariables false
set_option linter.unusedSimpArgs false
namespace Go.Proofs.YthhdgjofagdjeaaDoor
open Go.Lib

/-- the sign with which bytes begin, how many bytes it has; (0, 0): none does -/
def sgn (l : List UInt8) : Nat × Nat := if decodeL l = (65533, 1) then (0, 0) else decodeL l
structure Sg where
  at' : Nat
  size : Nat
  n : Nat
  broken : Bool
def Sg.bad (x : Sg) : Bool := decide (x.n < 32) || (decide (127 ≤ x.n) && decide (x.n ≤ 159))
def signsF (l : List UInt8) : Nat → Nat → List Sg
  | 0, _ => []
  | f + 1, p => if p < l.length then (if (sgn (l.drop p)).2 = 0 then ⟨p, 1, 65533, true⟩ :: signsF l f (p + 1) else ⟨p, (sgn (l.drop p)).2, (sgn (l.drop p)).1, false⟩ :: signsF l f (p + (sgn (l.drop p)).2)) else []
def signsL (l : List UInt8) : List Sg := signsF l l.length 0
def blankB (l : List UInt8) : Bool := l.isEmpty || l.head? == some 32 || l.getLast? == some 32
/-- the number of what is wrong with a text, 0: nothing -/
def chk (l : List UInt8) : Nat := if 200 < l.length then 3 else if (signsL l).any (·.broken) then 130 else if (signsL l).any (·.bad) then 131 else if blankB l then 132 else 0

theorem decodeL_pos (l : List UInt8) : 1 ≤ (decodeL l).2 := by rw [decodeL_N]; exact decodeN_ge1 _ _ _ _ _
theorem sgn_zero (l : List UInt8) : (sgn l).2 = 0 ↔ decodeL l = (65533, 1) := by
  unfold sgn
  constructor
  · intro h
    by_cases h1 : decodeL l = (65533, 1)
    · exact h1
    · rw [if_neg h1] at h
      have := decodeL_pos l
      omega
  · intro h
    rw [if_pos h]
theorem sgn_some {l : List UInt8} (h : (sgn l).2 ≠ 0) : sgn l = decodeL l := by
  unfold sgn at h ⊢
  by_cases h1 : decodeL l = (65533, 1)
  · rw [if_pos h1] at h; exact absurd rfl h
  · rw [if_neg h1]
/-- one step of the signs, by what the model decodes -/
theorem signsF_step (l : List UInt8) (f p : Nat) (h : p < l.length) : signsF l (f + 1) p = ⟨p, (decodeL (l.drop p)).2, (decodeL (l.drop p)).1, decide (decodeL (l.drop p) = (65533, 1))⟩ :: signsF l f (p + (decodeL (l.drop p)).2) := by
  rw [signsF, if_pos h]
  by_cases h1 : decodeL (l.drop p) = (65533, 1)
  · rw [if_pos ((sgn_zero _).2 h1), h1]; rfl
  · have h2 : (sgn (l.drop p)).2 ≠ 0 := fun h => h1 ((sgn_zero _).1 h)
    rw [if_neg h2, sgn_some h2, decide_eq_false h1]
theorem signsF_end (l : List UInt8) (f p : Nat) (h : ¬ p < l.length) : signsF l f p = [] := by
  cases f with
  | zero => rfl
  | succ f => rw [signsF, if_neg h]
theorem signsF_fuel (l : List UInt8) : ∀ (f g p : Nat), l.length ≤ p + f → l.length ≤ p + g → signsF l f p = signsF l g p
  | 0, g, p, hf, hg => by rw [signsF_end l 0 p (by omega), signsF_end l g p (by omega)]
  | f + 1, 0, p, hf, hg => by rw [signsF_end l _ p (by omega), signsF_end l 0 p (by omega)]
  | f + 1, g + 1, p, hf, hg => by
    by_cases h : p < l.length
    · have hw := decodeL_pos (l.drop p)
      rw [signsF_step l f p h, signsF_step l g p h, signsF_fuel l f g _ (by omega) (by omega)]
    · rw [signsF_end l _ p h, signsF_end l _ p h]
/-- a text is valid just if no sign of it is broken -/
theorem valid_signs (l : List UInt8) : ∀ (f p : Nat), l.length ≤ p + f → validD (l.drop p) = !(signsF l f p).any (·.broken)
  | 0, p, h => by
    rw [signsF_end l 0 p (by omega), List.drop_of_length_le (by omega)]; rfl
  | f + 1, p, h => by
    by_cases hp : p < l.length
    · have hne : l.drop p ≠ [] := by
        intro h0
        have := congrArg List.length h0
        rw [List.length_drop] at this
        simp at this; omega
      have hw := decodeL_pos (l.drop p)
      rw [signsF_step l f p hp, validD_step _ hne, List.any_cons, List.drop_drop, Bool.not_or]
      by_cases h1 : decodeL (l.drop p) = (65533, 1)
      · rw [if_pos (by rw [h1]; exact ⟨rfl, rfl⟩), decide_eq_true h1]; rfl
      · rw [if_neg (fun h2 => h1 (Prod.ext h2.1 h2.2)), decide_eq_false h1, valid_signs l f _ (by omega)]; rfl
    · rw [signsF_end l _ p hp, List.drop_of_length_le (by omega)]; rfl
/-- what 'sign' tells, by the ranges of the document -/
theorem sgn_N (l : List UInt8) : sgn l = if decodeN l.length (l.getD 0 0).toNat (l.getD 1 0).toNat (l.getD 2 0).toNat (l.getD 3 0).toNat = (65533, 1) then (0, 0) else decodeN l.length (l.getD 0 0).toNat (l.getD 1 0).toNat (l.getD 2 0).toNat (l.getD 3 0).toNat := by
  unfold sgn
  rw [decodeL_N]
end Go.Proofs.YthhdgjofagdjeaaDoor
end
section
/- The package variables that the rows list (unicode/utf8's two tables): a world that lays them. No law is named here. -/
set_option linter.unusedVariables false
set_option linter.unusedSimpArgs false
set_option maxRecDepth 100000
namespace Go.Proofs.YthhdgjofagdjeaaDoor
theorem own : ownKnob Tryd.prog.godebug = none := by kernel_rfl
/-- the settled world, the two variables holding what their initialisers lay -/
noncomputable def laidWorld (os : Os) : World :=
  let w0 := World.holding Tryd.prog os ⟨#[], #[], []⟩
  let put (h : Array Obj) (g : Nat) (cs : Array Value) : Array Obj := h.modify g fun
    | .cells _ t frozen => .cells cs t frozen
    | o => o
  let h1 := put w0.heap 0 (Lib.firstTab.map fun z => Value.int .u8 z).toArray
  let h2 := put h1 1 ((List.range 16).flatMap fun i => [Value.int .u8 (Lib.accLo i), Value.int .u8 (Lib.accHi i)]).toArray
  { w0 with heap := h2 }
def tables : List (String × DataW Unit) := [("unicode/utf8.acceptRanges", Rows.laid_unicode_utf8_acceptRanges), ("unicode/utf8.first", Rows.laid_unicode_utf8_first)]
theorem laid_met (os : Os) (args : Array Value) : laidMet Tryd.prog tables ((laidWorld os).forCall (fun _ _ => 0) ⟨#[], args, []⟩).memory :=
  (LaidIn.of_run (l := tables) [0, 1] 8 (by kernel_rfl) (by kernel_rfl) (by kernel_rfl) (by kernel_rfl)).met
/-- what the condition gives: each variable reads as its datum -/
def Tab (W : World) : Prop := laidMetH Tryd.prog tables W
end Go.Proofs.YthhdgjofagdjeaaDoor
end
section
/- A map from ints of a kind to values of any type, in the order of its entries: making, store of a new key, look-up. No program's function is named here. -/
set_option linter.unusedVariables false
set_option linter.unusedSimpArgs false
set_option maxRecDepth 100000
set_option maxHeartbeats 400000
namespace Go.Proofs.YthhdgjofagdjeaaDoor
open Go.RowKit Go.WideMaps Go.ChangeMaps

def I64 (n : Int) : Prop := -9223372036854775808 ≤ n ∧ n ≤ 9223372036854775807
theorem wf_i64 {a : Int} (h : I64 a) : (Lit.int .i64 a).wf = true := by
  unfold I64 at h
  simp [Lit.wf, IntKind.min, IntKind.max, IntKind.signed, IntKind.bits]; omega
theorem i64_lit (n : Int) (h : (decide (-9223372036854775808 ≤ n) && decide (n ≤ 9223372036854775807)) = true) : I64 n := by
  rw [Bool.and_eq_true] at h
  exact ⟨of_decide_eq_true h.1, of_decide_eq_true h.2⟩
/-- the block is a map with these entries, in this order -/
def MapI (w : World) (m : Nat) (D : List (Int × Value)) : Prop :=
  ∃ es clock, w.heap[m]? = some (.map es clock) ∧ Go.MapKept.Stamped es clock ∧ es.toList.map (fun e => (e.key, e.val)) = D.map (fun p => (Value.int .i64 p.1, p.2)) ∧ ∀ p ∈ D, I64 p.1
def lookI (D : List (Int × Value)) (n : Int) (z : Value) : Value × Bool := match D.find? (fun p => p.1 == n) with | some p => (p.2, true) | none => (z, false)
section
variable {P : Program} {w w' : World} {m : Nat} {D : List (Int × Value)} {T K E : TypeId} {n : Int} {v z : Value}
theorem MapI.lt (h : MapI w m D) : m < w.heap.size := let ⟨_, _, h1, _⟩ := h; (Array.getElem?_eq_some_iff.1 h1).1
theorem MapI.keeps {S : Nat → Prop} (h : MapI w m D) (hk : Keeps S w w') (hs : ¬ S m) : MapI w' m D := by
  have hl := h.lt
  obtain ⟨es, c, h1, h2⟩ := h
  exact ⟨es, c, (hk.block m hl hs).trans h1, h2⟩
theorem MapI.ext (h : MapI w m D) (hk : Ext w w') : MapI w' m D := h.keeps hk (noB _)
theorem mapi_new (w : World) : MapI (w.alloc (.map #[] 0)) w.heap.size [] :=
  ⟨#[], 0, World.alloc_heap_new w _, by unfold Go.MapKept.Stamped; simp, rfl, by simp⟩
theorem int_key (hK : P.underlying K = some (.int .i64)) (hn : I64 n) : keyOf P K (.int .i64 n) = some (.int .i64 n) := Go.Maps.keyOf_int_mk hK (wf_i64 hn)
theorem mapi_get {es : List MapEntry} {j : Nat} {e : MapEntry} (h : es.map (fun e => (e.key, e.val)) = D.map (fun p => (Value.int .i64 p.1, p.2))) (he : es[j]? = some e) : ∃ p, D[j]? = some p ∧ e.key = .int .i64 p.1 ∧ e.val = p.2 := by
  have h1 := congrArg (·[j]?) h
  simp only [List.getElem?_map, he, Option.map_some] at h1
  cases hd : D[j]? with
  | none => rw [hd] at h1; simp at h1
  | some p =>
    rw [hd] at h1
    simp at h1
    exact ⟨p, rfl, h1.1, h1.2⟩
theorem mapi_mem {es : List MapEntry} (h : es.map (fun e => (e.key, e.val)) = D.map (fun p => (Value.int .i64 p.1, p.2))) {e : MapEntry} (he : e ∈ es) : ∃ p ∈ D, e.key = .int .i64 p.1 ∧ e.val = p.2 := by
  obtain ⟨j, hj, rfl⟩ := List.getElem_of_mem he
  obtain ⟨p, h1, h2⟩ := mapi_get h (List.getElem?_eq_getElem hj)
  exact ⟨p, List.mem_of_getElem? h1, h2⟩
theorem mapi_find (hK : P.underlying K = some (.int .i64)) {es : List MapEntry} (h : es.map (fun e => (e.key, e.val)) = D.map (fun p => (Value.int .i64 p.1, p.2))) (hD : ∀ p ∈ D, I64 p.1) (hn : I64 n) :
    ((Instr.findKey K (.int .i64 n) es).run P w = .ok none w ∧ ∀ p ∈ D, p.1 ≠ n) ∨ ∃ j p, (Instr.findKey K (.int .i64 n) es).run P w = .ok (some (j, p.2)) w ∧ D[j]? = some p ∧ p.1 = n := by
  have hl := int_key hK hn
  have hkeys : ∀ e ∈ es, ∃ l, keyOf P K e.key = some l := fun e he => by
    obtain ⟨p, hp, hk, _⟩ := mapi_mem h he
    rw [hk]
    exact ⟨_, int_key hK (hD p hp)⟩
  rcases (Go.Maps.int_keyed hK).find w hl es hkeys with ⟨h1, h2⟩ | ⟨j, e, h1, h2, h3⟩
  · refine .inl ⟨h1, fun p hm hp => ?_⟩
    obtain ⟨j, hj, hjd⟩ := List.getElem_of_mem hm
    have hlen : es.length = D.length := by simpa using congrArg List.length h
    obtain ⟨q, hq, hk, _⟩ := mapi_get (D := D) h (List.getElem?_eq_getElem (show j < es.length by omega))
    rw [List.getElem?_eq_getElem hj, hjd] at hq
    cases hq
    exact h2 _ (List.getElem_mem _) (by rw [hk, hp])
  · obtain ⟨p, hp, hk, hv⟩ := mapi_get h h2
    rw [hv] at h1
    refine .inr ⟨j, p, h1, hp, ?_⟩
    rw [h3] at hk
    simpa using hk.symm
/-- a store at a new key -/
theorem MapI.put (h : MapI w m D) (hT : P.underlying T = some (.map K E)) (hK : P.underlying K = some (.int .i64)) (hn : I64 n) (hne : ∀ p ∈ D, p.1 ≠ n) (v : Value) :
    ∃ w', (Instr.mapUpdate T (.map (some m)) (.int .i64 n) v).run P w = .ok () w' ∧ MapI w' m (D ++ [(n, v)]) ∧ Keeps (OneB m) w w' := by
  obtain ⟨es, clock, h1, h2, h3, h4⟩ := h
  have hl := int_key hK hn
  rcases mapi_find (w := w) hK h3 h4 hn with ⟨h5, h6⟩ | ⟨j, p, h5, h6, h7⟩
  · refine ⟨setBlock w m (.map (es.push ⟨.int .i64 n, v, clock⟩) (clock + 1)), by simp [Instr.mapUpdate, run_underlying hT, Go.MapKept.run_getObj_map h1, (Go.Maps.int_keyed hK).check w _ hl, h5, Go.MapKept.run_setObj_map _ h1, Result.andThen, setBlock], ?_, ?_⟩
    · refine ⟨_, _, Go.ChangeMaps.heap_setBlock_same h1 _, Go.MapKept.stamped_push h2 (fun x hx he => ?_), ?_, ?_⟩
      · obtain ⟨p, hp, hk, _⟩ := mapi_mem h3 hx
        rw [hk] at he
        exact hne p hp (by simpa using he)
      · rw [Array.toList_push, List.map_append, h3, List.map_append]; rfl
      · intro p hp
        rcases List.mem_append.1 hp with hp | hp
        · exact h4 p hp
        · obtain rfl := List.mem_singleton.1 hp; exact hn
    · exact ⟨rfl, rfl, rfl, by simp [setBlock], fun i _ hi => Go.ChangeMaps.heap_setBlock_other h1 _ hi⟩
  · exact absurd h7 (hne p (List.mem_of_getElem? h6))
/-- a look-up, by the entries that do (each key stands once) -/
theorem MapI.look (h : MapI w m D) (hT : P.underlying T = some (.map K E)) (hK : P.underlying K = some (.int .i64)) (hz : ∀ w, (zeroValue E).run P w = .ok z w) (hn : I64 n) (hD : D.Pairwise (fun p q => p.1 ≠ q.1)) (ok : Bool) :
    (Instr.lookup T (.map (some m)) (.int .i64 n) ok).run P w = .ok (if ok then .tuple #[(lookI D n z).1, .bool (lookI D n z).2] else (lookI D n z).1) w := by
  obtain ⟨es, clock, h1, h2, h3, h4⟩ := h
  have hl := int_key hK hn
  rcases mapi_find (w := w) hK h3 h4 hn with ⟨h5, h6⟩ | ⟨j, p, h5, h6, h7⟩
  · have hf : lookI D n z = (z, false) := by
      unfold lookI
      rw [List.find?_eq_none.2 fun p hp => by simpa using h6 p hp]
    rw [hf]
    cases ok <;> simp [Instr.lookup, run_underlying hT, Go.MapKept.run_getObj_map h1, (Go.Maps.int_keyed hK).check w _ hl, h5, hz, Result.andThen]
  · have hm := List.mem_of_getElem? h6
    have hf : lookI D n z = (p.2, true) := by
      unfold lookI
      have : D.find? (fun p => p.1 == n) = some p := by
        rw [List.find?_eq_some_iff_getElem]
        obtain ⟨hj, hje⟩ := List.getElem?_eq_some_iff.1 h6
        refine ⟨by simpa using h7, j, hj, hje, fun k hk => ?_⟩
        have := List.pairwise_iff_getElem.1 hD k j (by omega) hj hk
        rw [hje, h7] at this
        simpa using this
      rw [this]
    rw [hf]
    cases ok <;> simp [Instr.lookup, run_underlying hT, Go.MapKept.run_getObj_map h1, (Go.Maps.int_keyed hK).check w _ hl, h5, hz, Result.andThen]
end
end Go.Proofs.YthhdgjofagdjeaaDoor
end
section
/- The bound, and what it asks of a choir: slots.Check and what it stands on, ref12.Right, both Bounds, num. No condition. -/
set_option linter.unusedVariables false
set_option linter.unusedSimpArgs false
set_option maxHeartbeats 400000
set_option maxRecDepth 10000
namespace Go.Proofs.YthhdgjofagdjeaaDoor
open Go.RowKit

/-- may a choir be? -/
def RightC (c : Int) : Prop := c = 3 ∨ c = 5 ∨ c = 7 ∨ c = 9
instance (c : Int) : Decidable (RightC c) := by unfold RightC; infer_instance

theorem in_any (w : World) (c : Int) : Calls Tryd.prog 58 #[.int .i64 c, .int .i64 3, .int .i64 10] w fun e w' => e = .returned (.bool (decide (3 ≤ c) && decide (c < 10))) ∧ w' = w := by
  by_cases h1 : 3 ≤ c
  · go_enter Tryd.func58, Tryd.ntmps58
    go_wp2_with fail
    go_ret
    simp [h1]
  · go_enter Tryd.func58, Tryd.ntmps58
    go_wp2_with fail
    go_ret
    simp
    omega

theorem all_two (w : World) (b : Nat) (x y : Bool) (hb : Box w b 4 [.bool x, .bool y]) : Calls Tryd.prog 57 #[.slice (some ⟨b, 0, none⟩) 2 2] w fun e w' => e = .returned (.bool (x && y)) ∧ w' = w := by
  have HB := Lib.hid hb
  clear hb
  cases x
  · go_enter Tryd.func57, Tryd.ntmps57
    obtain ⟨cHB, zHB⟩ := HB.out.reads
    have lHB := HB.out.lt
    go_wp2_with fail
    refine wp_loop_rounds 3 ?_
    rw [rounds_succ]
    go_wp2_with fail
    go_ret
    exact ⟨rfl, rfl⟩
  · cases y
    · go_enter Tryd.func57, Tryd.ntmps57
      obtain ⟨cHB, zHB⟩ := HB.out.reads
      have lHB := HB.out.lt
      go_wp2_with fail
      refine wp_loop_rounds 4 ?_
      rw [rounds_succ]
      go_wp2_with fail
      rw [rounds_succ]
      go_wp2_with fail
      go_ret
      exact ⟨rfl, rfl⟩
    · go_enter Tryd.func57, Tryd.ntmps57
      obtain ⟨cHB, zHB⟩ := HB.out.reads
      have lHB := HB.out.lt
      go_wp2_with fail
      refine wp_loop_rounds 4 ?_
      rw [rounds_succ]
      go_wp2_with fail
      rw [rounds_succ]
      go_wp2_with fail
      rw [rounds_succ]
      go_wp2_with fail
      go_ret
      exact ⟨rfl, rfl⟩

theorem right_eq (c : Int) : ((decide (3 ≤ c) && decide (c < 10)) && (c.tmod 2 == 1)) = decide (RightC c) := by
  by_cases h : 3 ≤ c ∧ c < 10
  · obtain ⟨h1, h2⟩ := h
    obtain rfl | rfl | rfl | rfl | rfl | rfl | rfl : c = 3 ∨ c = 4 ∨ c = 5 ∨ c = 6 ∨ c = 7 ∨ c = 8 ∨ c = 9 := by omega
    all_goals decide
  · have h3 : ¬ RightC c := by unfold RightC; omega
    rw [decide_eq_false h3]
    by_cases h1 : 3 ≤ c
    · rw [decide_eq_false (p := c < 10) (by omega), Bool.and_false, Bool.false_and]
    · rw [decide_eq_false h1, Bool.false_and, Bool.false_and]
theorem rightS_any (w : World) (c : Int) : Calls Tryd.prog 39 #[.int .i64 c] w fun e w' => e = .returned (.bool (decide (RightC c))) ∧ Ext w w' := by
  go_enter Tryd.func39, Tryd.ntmps39
  go_wp2_with fail
  refine (in_any w c).mono ?_
  rintro e w' ⟨rfl, rfl⟩
  go_wp2_with fail
  have bx0 := (Box.new w' 4 [.bool (decide (3 ≤ c) && decide (c < 10)), .bool (c.tmod 2 == 1)])
  have ex : Ext w' (w'.alloc (Obj.cells #[.bool (decide (3 ≤ c) && decide (c < 10)), .bool (c.tmod 2 == 1)] 4)) := ((Keeps.refl NoB w').alloc _)
  have sx : (w'.alloc (Obj.cells #[.bool (decide (3 ≤ c) && decide (c < 10)), .bool (c.tmod 2 == 1)] 4)).heap.size = w'.heap.size + 1 := by simp
  generalize (w'.alloc (Obj.cells #[.bool (decide (3 ≤ c) && decide (c < 10)), .bool (c.tmod 2 == 1)] 4)) = w0 at bx0 ex sx ⊢
  have Sx := Lib.hid sx
  clear sx
  have HE := Lib.hid ex
  refine (all_two w0 _ _ _ bx0).mono ?_
  rintro e w'' ⟨rfl, rfl⟩
  clear ex bx0
  rw [right_eq]
  go_wp2_with fail
  go_ret
  exact ⟨rfl, HE.out⟩
theorem check_any (w : World) (c : Int) : Calls Tryd.prog 20 #[.int .i64 c] w fun e w' => e = .returned (.int .i64 (if RightC c then 0 else 2)) ∧ Ext w w' := by
  by_cases h : RightC c
  · have hd : decide (RightC c) = true := decide_eq_true h
    rw [if_pos h]
    go_enter Tryd.func20, Tryd.ntmps20
    go_wp2_with fail
    refine (rightS_any w c).mono ?_
    rintro e w' ⟨rfl, hE⟩
    have HE := Lib.hid hE
    clear hE
    rw [hd]
    go_wp2_with fail
    go_ret
    exact ⟨rfl, HE.out⟩
  · have hd : decide (RightC c) = false := decide_eq_false h
    rw [if_neg h]
    go_enter Tryd.func20, Tryd.ntmps20
    go_wp2_with fail
    refine (rightS_any w c).mono ?_
    rintro e w' ⟨rfl, hE⟩
    have HE := Lib.hid hE
    clear hE
    rw [hd]
    go_wp2_with fail
    go_ret
    exact ⟨rfl, HE.out⟩

theorem ref12_any (w : World) (c : Int) : Calls Tryd.prog 21 #[.int .i64 c] w fun e w' => e = .returned (.bool (decide (RightC c))) ∧ w' = w := by
  by_cases h3 : c = 3
  · subst h3
    go_enter Tryd.func21, Tryd.ntmps21
    go_wp2_with fail
    go_ret
    exact ⟨rfl, rfl⟩
  by_cases h5 : c = 5
  · subst h5
    go_enter Tryd.func21, Tryd.ntmps21
    go_wp2_with fail
    go_ret
    exact ⟨rfl, rfl⟩
  by_cases h7 : c = 7
  · subst h7
    go_enter Tryd.func21, Tryd.ntmps21
    go_wp2_with fail
    go_ret
    exact ⟨rfl, rfl⟩
  · go_enter Tryd.func21, Tryd.ntmps21
    go_wp2_with fail
    go_ret
    by_cases h9 : c = 9
    · subst h9; exact ⟨rfl, rfl⟩
    · simp [RightC, h3, h5, h7, h9]

/-- may a bound be asked for? -/
def BoundC (c wait many : Int) : Prop := RightC c ∧ 1 ≤ wait ∧ wait ≤ 1000000 ∧ 0 ≤ many ∧ many ≤ 1000000
instance (c wait many : Int) : Decidable (BoundC c wait many) := by unfold BoundC; infer_instance
def boundR (c wait many : Int) : Value := if BoundC c wait many then .tuple #[.int .i64 (100 * wait + 32 * (many + 1)), .int .i64 0] else .tuple #[.int .i64 0, .int .i64 2]
theorem bound_any (w : World) (c wait many : Int) : Calls Tryd.prog 6 #[.int .i64 c, .int .i64 wait, .int .i64 many] w fun e w' => e = .returned (boundR c wait many) ∧ Ext w w' := by
  by_cases h : RightC c
  · by_cases h1 : BoundC c wait many
    · rw [boundR, if_pos h1]
      obtain ⟨_, g1, g2, g3, g4⟩ := h1
      have e1 : ¬ wait < 1 := by omega
      have e2 : ¬ 1000000 < wait := by omega
      have e3 : ¬ many < 0 := by omega
      have e4 : ¬ 1000000 < many := by omega
      go_enter Tryd.func6, Tryd.ntmps6
      go_wp2_with fail
      refine (check_any w c).mono ?_
      rintro e w' ⟨rfl, hE⟩
      have HE := Lib.hid hE
      clear hE
      rw [if_pos h]
      go_wp2_with fail
      go_ret2
      exact ⟨rfl, HE.out⟩
    · have e0 : wait < 1 ∨ (¬ wait < 1 ∧ 1000000 < wait) ∨ (¬ wait < 1 ∧ ¬ 1000000 < wait ∧ many < 0) ∨ (¬ wait < 1 ∧ ¬ 1000000 < wait ∧ ¬ many < 0 ∧ 1000000 < many) := by
        have h2 : ¬ (1 ≤ wait ∧ wait ≤ 1000000 ∧ 0 ≤ many ∧ many ≤ 1000000) := fun h3 => h1 ⟨h, h3⟩
        omega
      rw [boundR, if_neg h1]
      clear h1
      rcases e0 with e1 | ⟨e1, e2⟩ | ⟨e1, e2, e3⟩ | ⟨e1, e2, e3, e4⟩
      all_goals
        go_enter Tryd.func6, Tryd.ntmps6
        go_wp2_with fail
        refine (check_any w c).mono ?_
        rintro e w' ⟨rfl, hE⟩
        have HE := Lib.hid hE
        clear hE
        rw [if_pos h]
        go_wp2_with fail
        go_ret2
        exact ⟨rfl, HE.out⟩
  · have h1 : ¬ BoundC c wait many := fun h' => h h'.1
    rw [boundR, if_neg h1]
    clear h1
    go_enter Tryd.func6, Tryd.ntmps6
    go_wp2_with fail
    refine (check_any w c).mono ?_
    rintro e w' ⟨rfl, hE⟩
    have HE := Lib.hid hE
    clear hE
    rw [if_neg h]
    go_wp2_with fail
    go_ret2
    exact ⟨rfl, HE.out⟩
theorem num_any (w : World) (e : Int) : Calls Tryd.prog 8 #[.int .i64 e] w fun r w' => r = .returned (.int .i64 e) ∧ w' = w := by
  go_enter Tryd.func8, Tryd.ntmps8
  go_wp2_with fail
  go_ret
  exact ⟨rfl, rfl⟩
end Go.Proofs.YthhdgjofagdjeaaDoor
end
section
/- The judge's table of kinds. No condition. -/
set_option linter.unusedVariables false
set_option linter.unusedSimpArgs false
set_option maxHeartbeats 400000
set_option maxRecDepth 10000
namespace Go.Proofs.YthhdgjofagdjeaaDoor
open Go.RowKit

def kindV (entry place : Bool) (least : Int) (f : Nat) : Value := .agg #[.bool entry, .bool place, .int .i64 least, .func (.func f) #[] #[]]
def kindsD : List (Int × Value) := [(1, kindV true false 0 44), (2, kindV true true 0 46), (3, kindV false true 0 50), (4, kindV false false 0 51), (5, kindV true false 0 52), (6, kindV false false (-1) 53)]
theorem kinds_any (w : World) : Calls Tryd.prog 30 #[] w fun e w' => ∃ m, e = .returned (.map (some m)) ∧ MapI w' m kindsD ∧ Ext w w' ∧ w.heap.size ≤ m := by
  have put := fun (w : World) (D : List (Int × Value)) (m : Nat) (h : MapI w m D) (n : Int) (hn : I64 n) (hne : ∀ p ∈ D, p.1 ≠ n) (v : Value) => h.put Tryd.underlying82 Tryd.underlying32 hn hne v
  have hmm := run_makeMap (P := Tryd.prog) 82 w
  obtain ⟨w1, r1, m1, k1⟩ := put _ _ _ (mapi_new w) 1 (i64_lit 1 rfl) (by decide) (kindV true false 0 44)
  obtain ⟨w2, r2, m2, k2⟩ := put _ _ _ m1 2 (i64_lit 2 rfl) (by simp) (kindV true true 0 46)
  obtain ⟨w3, r3, m3, k3⟩ := put _ _ _ m2 3 (i64_lit 3 rfl) (by simp) (kindV false true 0 50)
  obtain ⟨w4, r4, m4, k4⟩ := put _ _ _ m3 4 (i64_lit 4 rfl) (by simp) (kindV false false 0 51)
  obtain ⟨w5, r5, m5, k5⟩ := put _ _ _ m4 5 (i64_lit 5 rfl) (by simp) (kindV true false 0 52)
  obtain ⟨w6, r6, m6, k6⟩ := put _ _ _ m5 6 (i64_lit 6 rfl) (by simp) (kindV false false (-1) 53)
  have HM := Lib.hid m6
  have HK := Lib.hid (((((k1.trans k2).trans k3).trans k4).trans k5).trans k6)
  clear m1 m2 m3 m4 m5 m6 k1 k2 k3 k4 k5 k6 put
  unfold kindV at r1 r2 r3 r4 r5 r6
  go_enter Tryd.func30, Tryd.ntmps30
  go_wp2_with fail
  go_ret
  refine ⟨_, rfl, HM.out, ?_, Nat.le_refl _⟩
  exact ((Keeps.refl NoB w).alloc _).then HK.out fun i hi h => absurd (show i = w.heap.size from h) (by omega)
end Go.Proofs.YthhdgjofagdjeaaDoor
end
section
/- May an entry be? acceptor.Right and what it stands on. Condition: of an entry that says something, that text.Check answers as the document's. -/
set_option linter.unusedVariables false
set_option linter.unusedSimpArgs false
set_option maxHeartbeats 400000
set_option maxRecDepth 10000
namespace Go.Proofs.YthhdgjofagdjeaaDoor
open Go.RowKit

structure En where
  kind : Int
  member : Int
  number : Int
  text : List UInt8
deriving DecidableEq
def En.cells (e : En) : List Value := [.int .i64 e.kind, .int .i64 e.member, .int .i64 e.number, .string (bs e.text)]
def En.v (e : En) : Value := .agg #[.int .i64 e.kind, .int .i64 e.member, .int .i64 e.number, .string (bs e.text)]
def memB (m : Int) : Bool := decide (0 ≤ m) && decide (m < 16)
def aloneB (e : En) : Bool := decide (e = ⟨e.kind, e.member, 0, []⟩)
theorem bs_inj {l l' : List UInt8} (h : bs l = bs l') : l = l' := by
  have := congrArg (fun s : ByteArray => s.data.toList) h
  simpa [bs_data] using this
/-- an entry with nothing but kind and member, and how else: what a comparison asks in turn -/
theorem alone_cases (e : En) : (e.number = 0 ∧ (bs e.text).toList = [] ∧ aloneB e = true) ∨ (e.number = 0 ∧ ¬ (bs e.text).toList = [] ∧ aloneB e = false) ∨ (¬ e.number = 0 ∧ aloneB e = false) := by
  obtain ⟨k, m, n, t⟩ := e
  rw [bs_toList]
  unfold aloneB
  by_cases hn : n = 0
  · by_cases ht : t = []
    · exact .inl ⟨hn, ht, by subst hn ht; simp⟩
    · exact .inr (.inl ⟨hn, ht, by simp [ht]⟩)
  · exact .inr (.inr ⟨hn, by simp [hn]⟩)

theorem acc_all2 (w : World) (b : Nat) (x y : Bool) (hb : Box w b 4 [.bool x, .bool y]) : Calls Tryd.prog 62 #[.slice (some ⟨b, 0, none⟩) 2 2] w fun e w' => e = .returned (.bool (x && y)) ∧ w' = w := by
  have HB := Lib.hid hb
  clear hb
  cases x
  · go_enter Tryd.func62, Tryd.ntmps62
    obtain ⟨cHB, zHB⟩ := HB.out.reads
    have lHB := HB.out.lt
    go_wp2_with fail
    refine wp_loop_rounds 3 ?_
    rw [rounds_succ]
    go_wp2_with fail
    go_ret
    exact ⟨rfl, rfl⟩
  · cases y
    · go_enter Tryd.func62, Tryd.ntmps62
      obtain ⟨cHB, zHB⟩ := HB.out.reads
      have lHB := HB.out.lt
      go_wp2_with fail
      refine wp_loop_rounds 4 ?_
      rw [rounds_succ]
      go_wp2_with fail
      rw [rounds_succ]
      go_wp2_with fail
      go_ret
      exact ⟨rfl, rfl⟩
    · go_enter Tryd.func62, Tryd.ntmps62
      obtain ⟨cHB, zHB⟩ := HB.out.reads
      have lHB := HB.out.lt
      go_wp2_with fail
      refine wp_loop_rounds 4 ?_
      rw [rounds_succ]
      go_wp2_with fail
      rw [rounds_succ]
      go_wp2_with fail
      rw [rounds_succ]
      go_wp2_with fail
      go_ret
      exact ⟨rfl, rfl⟩

theorem right1_any (w : World) (k : Nat) (m : Bool) (e : En) (hk : Box w k 4 [.bool m]) :
    Calls Tryd.prog 61 #[e.v, .pointer (some ⟨k, 0, none⟩)] w fun r w' => r = .returned (.bool (m && aloneB e)) ∧ Ext w w' := by
  have HB := Lib.hid hk
  clear hk
  unfold En.v
  rcases alone_cases e with ⟨h1, h2, h3⟩ | ⟨h1, h2, h3⟩ | ⟨h1, h3⟩
  · rw [h3]
    clear h3
    have HH := Lib.hid (And.intro h1 h2)
    clear h1 h2
    go_enter Tryd.func61, Tryd.ntmps61
    obtain ⟨cHB, zHB⟩ := HB.out.reads
    have lHB := HB.out.lt
    go_wp2_with fail
    have bx0 := (Box.new w 35 [.int .i64 e.kind, .int .i64 e.member, .int .i64 e.number, .string (bs e.text)])
    have ex : Ext w (w.alloc (Obj.cells #[.int .i64 e.kind, .int .i64 e.member, .int .i64 e.number, .string (bs e.text)] 35)) := ((Keeps.refl NoB w).alloc _)
    have sx : (w.alloc (Obj.cells #[.int .i64 e.kind, .int .i64 e.member, .int .i64 e.number, .string (bs e.text)] 35)).heap.size = w.heap.size + 1 := by simp
    generalize (w.alloc (Obj.cells #[.int .i64 e.kind, .int .i64 e.member, .int .i64 e.number, .string (bs e.text)] 35)) = w0 at bx0 ex sx ⊢
    have Sx := Lib.hid sx
    clear sx
    have BX := Lib.hid bx0
    clear cHB zHB lHB
    replace HB := Lib.hid (HB.out.ext ex)
    have HE := Lib.hid ex
    clear bx0 ex
    obtain ⟨cHB, zHB⟩ := HB.out.reads
    have lHB := HB.out.lt
    obtain ⟨cBX, zBX⟩ := BX.out.reads
    have lBX := BX.out.lt
    obtain ⟨h1, h2⟩ := HH.out
    have hE0 : Keeps NoB w0 w0.drew := (Keeps.refl _ _).drew
    refine wp_region_plan [(3, 0), (3, 1), (0, 2), (3, 3), (0, 4), (3, 5), (0, 6), (0, 7)] [] [8, 9, 10] [8, 9, 10] (ClsE w0) (by kernel_rfl) (by kernel_rfl) (by kernel_rfl) rfl rfl (ClsE.of hE0) (fun _ _ _ d _ h => by cases d <;> exact h) ?_; simp only [planL, nL]
    iterate 2 (refine pX (v := ?_) rfl ?_ ?_; rotate_left; (go_simp <;> with_reducible rfl); simp only [nP])
    refine pR (v := ?_) rfl (fun W => ?_) ?_; rotate_left; (go_simp <;> with_reducible rfl); simp only [nP]
    refine pX (v := ?_) rfl ?_ ?_; rotate_left; (go_simp <;> with_reducible rfl); simp only [nP]
    refine pR (v := ?_) rfl (fun W => ?_) ?_; rotate_left; (go_simp <;> with_reducible rfl); simp only [nP]
    refine pX (v := ?_) rfl ?_ ?_; rotate_left; (go_simp <;> with_reducible rfl); simp only [nP]
    iterate 2 (refine pR (v := ?_) rfl (fun W => ?_) ?_; rotate_left; (go_simp <;> with_reducible rfl); simp only [nP])
    refine plan_nil ?_; simp only [tailL, List.filterMap_cons, List.filterMap_nil, nL]; change wpList _ _ _ (_ :: _ :: _ :: []) _ _
    clear cHB zHB lHB cBX zBX lBX
    clear h1 h2
    go_wp2_with fail
    have by0 := (Box.new w0 4 [.bool m, .bool true])
    have ey : Ext w0 (w0.alloc (Obj.cells #[.bool m, .bool true] 4)) := ((Keeps.refl NoB w0).alloc _)
    have sy : (w0.alloc (Obj.cells #[.bool m, .bool true] 4)).heap.size = w0.heap.size + 1 := by simp
    generalize (w0.alloc (Obj.cells #[.bool m, .bool true] 4)) = w1 at by0 ey sy ⊢
    have Sy := Lib.hid sy
    clear sy
    have HE1 := Lib.hid ((HE.out.ext ey).drew)
    refine (acc_all2 w1.drew _ m true by0.drew).mono ?_
    rintro e' w2 ⟨rfl, rfl⟩
    clear ey by0 hE0
    go_wp2_with fail
    go_ret
    exact ⟨by simp, HE1.out⟩
  · rw [h3]
    clear h3
    have HH := Lib.hid (And.intro h1 h2)
    clear h1 h2
    go_enter Tryd.func61, Tryd.ntmps61
    obtain ⟨cHB, zHB⟩ := HB.out.reads
    have lHB := HB.out.lt
    go_wp2_with fail
    have bx0 := (Box.new w 35 [.int .i64 e.kind, .int .i64 e.member, .int .i64 e.number, .string (bs e.text)])
    have ex : Ext w (w.alloc (Obj.cells #[.int .i64 e.kind, .int .i64 e.member, .int .i64 e.number, .string (bs e.text)] 35)) := ((Keeps.refl NoB w).alloc _)
    have sx : (w.alloc (Obj.cells #[.int .i64 e.kind, .int .i64 e.member, .int .i64 e.number, .string (bs e.text)] 35)).heap.size = w.heap.size + 1 := by simp
    generalize (w.alloc (Obj.cells #[.int .i64 e.kind, .int .i64 e.member, .int .i64 e.number, .string (bs e.text)] 35)) = w0 at bx0 ex sx ⊢
    have Sx := Lib.hid sx
    clear sx
    have BX := Lib.hid bx0
    clear cHB zHB lHB
    replace HB := Lib.hid (HB.out.ext ex)
    have HE := Lib.hid ex
    clear bx0 ex
    obtain ⟨cHB, zHB⟩ := HB.out.reads
    have lHB := HB.out.lt
    obtain ⟨cBX, zBX⟩ := BX.out.reads
    have lBX := BX.out.lt
    obtain ⟨h1, h2⟩ := HH.out
    have hE0 : Keeps NoB w0 w0.drew := (Keeps.refl _ _).drew
    refine wp_region_plan [(3, 0), (3, 1), (0, 2), (3, 3), (0, 4), (3, 5), (0, 6), (0, 7)] [] [8, 9, 10] [8, 9, 10] (ClsE w0) (by kernel_rfl) (by kernel_rfl) (by kernel_rfl) rfl rfl (ClsE.of hE0) (fun _ _ _ d _ h => by cases d <;> exact h) ?_; simp only [planL, nL]
    iterate 2 (refine pX (v := ?_) rfl ?_ ?_; rotate_left; (go_simp <;> with_reducible rfl); simp only [nP])
    refine pR (v := ?_) rfl (fun W => ?_) ?_; rotate_left; (go_simp <;> with_reducible rfl); simp only [nP]
    refine pX (v := ?_) rfl ?_ ?_; rotate_left; (go_simp <;> with_reducible rfl); simp only [nP]
    refine pR (v := ?_) rfl (fun W => ?_) ?_; rotate_left; (go_simp <;> with_reducible rfl); simp only [nP]
    refine pX (v := ?_) rfl ?_ ?_; rotate_left; (go_simp <;> with_reducible rfl); simp only [nP]
    iterate 2 (refine pR (v := ?_) rfl (fun W => ?_) ?_; rotate_left; (go_simp <;> with_reducible rfl); simp only [nP])
    refine plan_nil ?_; simp only [tailL, List.filterMap_cons, List.filterMap_nil, nL]; change wpList _ _ _ (_ :: _ :: _ :: []) _ _
    clear cHB zHB lHB cBX zBX lBX
    clear h1 h2
    go_wp2_with fail
    have by0 := (Box.new w0 4 [.bool m, .bool false])
    have ey : Ext w0 (w0.alloc (Obj.cells #[.bool m, .bool false] 4)) := ((Keeps.refl NoB w0).alloc _)
    have sy : (w0.alloc (Obj.cells #[.bool m, .bool false] 4)).heap.size = w0.heap.size + 1 := by simp
    generalize (w0.alloc (Obj.cells #[.bool m, .bool false] 4)) = w1 at by0 ey sy ⊢
    have Sy := Lib.hid sy
    clear sy
    have HE1 := Lib.hid ((HE.out.ext ey).drew)
    refine (acc_all2 w1.drew _ m false by0.drew).mono ?_
    rintro e' w2 ⟨rfl, rfl⟩
    clear ey by0 hE0
    go_wp2_with fail
    go_ret
    exact ⟨by simp, HE1.out⟩
  · rw [h3]
    clear h3
    have HH := Lib.hid (And.intro h1 trivial)
    clear h1
    go_enter Tryd.func61, Tryd.ntmps61
    obtain ⟨cHB, zHB⟩ := HB.out.reads
    have lHB := HB.out.lt
    go_wp2_with fail
    have bx0 := (Box.new w 35 [.int .i64 e.kind, .int .i64 e.member, .int .i64 e.number, .string (bs e.text)])
    have ex : Ext w (w.alloc (Obj.cells #[.int .i64 e.kind, .int .i64 e.member, .int .i64 e.number, .string (bs e.text)] 35)) := ((Keeps.refl NoB w).alloc _)
    have sx : (w.alloc (Obj.cells #[.int .i64 e.kind, .int .i64 e.member, .int .i64 e.number, .string (bs e.text)] 35)).heap.size = w.heap.size + 1 := by simp
    generalize (w.alloc (Obj.cells #[.int .i64 e.kind, .int .i64 e.member, .int .i64 e.number, .string (bs e.text)] 35)) = w0 at bx0 ex sx ⊢
    have Sx := Lib.hid sx
    clear sx
    have BX := Lib.hid bx0
    clear cHB zHB lHB
    replace HB := Lib.hid (HB.out.ext ex)
    have HE := Lib.hid ex
    clear bx0 ex
    obtain ⟨cHB, zHB⟩ := HB.out.reads
    have lHB := HB.out.lt
    obtain ⟨cBX, zBX⟩ := BX.out.reads
    have lBX := BX.out.lt
    obtain ⟨h1, -⟩ := HH.out
    have hE0 : Keeps NoB w0 w0.drew := (Keeps.refl _ _).drew
    refine wp_region_plan [(3, 0), (3, 1), (0, 2), (3, 3), (0, 4), (3, 5), (0, 6), (0, 7)] [] [8, 9, 10] [8, 9, 10] (ClsE w0) (by kernel_rfl) (by kernel_rfl) (by kernel_rfl) rfl rfl (ClsE.of hE0) (fun _ _ _ d _ h => by cases d <;> exact h) ?_; simp only [planL, nL]
    iterate 2 (refine pX (v := ?_) rfl ?_ ?_; rotate_left; (go_simp <;> with_reducible rfl); simp only [nP])
    refine pR (v := ?_) rfl (fun W => ?_) ?_; rotate_left; (go_simp <;> with_reducible rfl); simp only [nP]
    refine pX (v := ?_) rfl ?_ ?_; rotate_left; (go_simp <;> with_reducible rfl); simp only [nP]
    refine pR (v := ?_) rfl (fun W => ?_) ?_; rotate_left; (go_simp <;> with_reducible rfl); simp only [nP]
    refine pX (v := ?_) rfl ?_ ?_; rotate_left; (go_simp <;> with_reducible rfl); simp only [nP]
    iterate 2 (refine pR (v := ?_) rfl (fun W => ?_) ?_; rotate_left; (go_simp <;> with_reducible rfl); simp only [nP])
    refine plan_nil ?_; simp only [tailL, List.filterMap_cons, List.filterMap_nil, nL]; change wpList _ _ _ (_ :: _ :: _ :: []) _ _
    clear cHB zHB lHB cBX zBX lBX
    clear h1
    go_wp2_with fail
    have by0 := (Box.new w0 4 [.bool m, .bool false])
    have ey : Ext w0 (w0.alloc (Obj.cells #[.bool m, .bool false] 4)) := ((Keeps.refl NoB w0).alloc _)
    have sy : (w0.alloc (Obj.cells #[.bool m, .bool false] 4)).heap.size = w0.heap.size + 1 := by simp
    generalize (w0.alloc (Obj.cells #[.bool m, .bool false] 4)) = w1 at by0 ey sy ⊢
    have Sy := Lib.hid sy
    clear sy
    have HE1 := Lib.hid ((HE.out.ext ey).drew)
    refine (acc_all2 w1.drew _ m false by0.drew).mono ?_
    rintro e' w2 ⟨rfl, rfl⟩
    clear ey by0 hE0
    go_wp2_with fail
    go_ret
    exact ⟨by simp, HE1.out⟩
theorem acc_all4 (w : World) (b : Nat) (x y z u : Bool) (hb : Box w b 4 [.bool x, .bool y, .bool z, .bool u]) : Calls Tryd.prog 62 #[.slice (some ⟨b, 0, none⟩) 4 4] w fun e w' => e = .returned (.bool (x && y && z && u)) ∧ w' = w := by
  have HB := Lib.hid hb
  clear hb
  go_enter Tryd.func62, Tryd.ntmps62
  obtain ⟨cHB, zHB⟩ := HB.out.reads
  have lHB := HB.out.lt
  go_wp2_with fail
  refine wp_loop_rounds 6 ?_
  rw [rounds_succ]
  cases x
  · go_wp2_with fail
    go_ret
    exact ⟨by simp, rfl⟩
  go_wp2_with fail
  rw [rounds_succ]
  cases y
  · go_wp2_with fail
    go_ret
    exact ⟨by simp, rfl⟩
  go_wp2_with fail
  rw [rounds_succ]
  cases z
  · go_wp2_with fail
    go_ret
    exact ⟨by simp, rfl⟩
  go_wp2_with fail
  rw [rounds_succ]
  cases u
  · go_wp2_with fail
    go_ret
    exact ⟨by simp, rfl⟩
  go_wp2_with fail
  rw [rounds_succ]
  go_wp2_with fail
  go_ret
  exact ⟨by simp, rfl⟩

def noneB (e : En) : Bool := decide (e = ⟨e.kind, 0, 0, []⟩)
theorem none_cases (e : En) : (e.member = 0 ∧ e.number = 0 ∧ (bs e.text).toList = [] ∧ noneB e = true) ∨ (e.member = 0 ∧ e.number = 0 ∧ ¬ (bs e.text).toList = [] ∧ noneB e = false) ∨ (e.member = 0 ∧ ¬ e.number = 0 ∧ noneB e = false) ∨ (¬ e.member = 0 ∧ noneB e = false) := by
  obtain ⟨k, m, n, t⟩ := e
  rw [bs_toList]
  unfold noneB
  by_cases hm : m = 0
  · by_cases hn : n = 0
    · by_cases ht : t = []
      · exact .inl ⟨hm, hn, ht, by subst hm hn ht; simp⟩
      · exact .inr (.inl ⟨hm, hn, ht, by simp [ht]⟩)
    · exact .inr (.inr (.inl ⟨hm, hn, by simp [hn]⟩))
  · exact .inr (.inr (.inr ⟨hm, by simp [hm]⟩))
theorem right2_any (w : World) (e : En) :
    Calls Tryd.prog 63 #[e.v] w fun r w' => r = .returned (.bool (noneB e)) ∧ Ext w w' := by
  unfold En.v
  go_enter Tryd.func63, Tryd.ntmps63
  go_wp2_with fail
  all_goals
    go_ret
    refine ⟨?_, (Keeps.refl _ _).alloc _⟩
    rcases none_cases e with ⟨h1, h2, h3, h4⟩ | ⟨h1, h2, h3, h4⟩ | ⟨h1, h2, h4⟩ | ⟨h1, h4⟩ <;> rw [h4] <;> first | rfl | (exfalso; simp_all)
def sayB (m : Bool) (e : En) : Bool := m && decide (1 ≤ e.number) && decide (e.number ≤ 2147483647) && (chk e.text == 0)
theorem right3_any (w : World) (k : Nat) (m : Bool) (e : En) (hk : Box w k 4 [.bool m])
    (hC : ∀ w1, Ext w w1 → Calls Tryd.prog 65 #[.string (bs e.text)] w1 fun r w' => r = .returned (.int .i64 (chk e.text : Int)) ∧ Ext w1 w') :
    Calls Tryd.prog 64 #[e.v, .pointer (some ⟨k, 0, none⟩)] w fun r w' => r = .returned (.bool (sayB m e)) ∧ Ext w w' := by
  have HB := Lib.hid hk
  have HC := Lib.hid hC
  clear hk hC
  unfold En.v
  go_enter Tryd.func64, Tryd.ntmps64
  obtain ⟨cHB, zHB⟩ := HB.out.reads
  have lHB := HB.out.lt
  go_wp2_with fail
  have bx0 := (Box.new w 35 [.int .i64 e.kind, .int .i64 e.member, .int .i64 e.number, .string (bs e.text)])
  have ex : Ext w (w.alloc (Obj.cells #[.int .i64 e.kind, .int .i64 e.member, .int .i64 e.number, .string (bs e.text)] 35)) := ((Keeps.refl NoB w).alloc _)
  have sx : (w.alloc (Obj.cells #[.int .i64 e.kind, .int .i64 e.member, .int .i64 e.number, .string (bs e.text)] 35)).heap.size = w.heap.size + 1 := by simp
  generalize (w.alloc (Obj.cells #[.int .i64 e.kind, .int .i64 e.member, .int .i64 e.number, .string (bs e.text)] 35)) = w0 at bx0 ex sx ⊢
  have Sx := Lib.hid sx
  clear sx
  have BX := Lib.hid bx0
  clear cHB zHB lHB
  replace HB := Lib.hid (HB.out.ext ex)
  have HE := Lib.hid ex
  clear bx0 ex
  obtain ⟨cHB, zHB⟩ := HB.out.reads
  have lHB := HB.out.lt
  obtain ⟨cBX, zBX⟩ := BX.out.reads
  have lBX := BX.out.lt
  have hE0 : Keeps NoB w0 w0.drew := (Keeps.refl _ _).drew
  refine wp_region_plan [(1, 0), (0, 1), (1, 2), (0, 3), (0, 4), (1, 5), (0, 6), (0, 7), (3, 8), (2, 9), (0, 10)] [0, 2, 5] [9, 11, 12, 13] [11, 12, 13] (ClsE w0) (by kernel_rfl) (by kernel_rfl) (by kernel_rfl) rfl rfl (ClsE.of hE0) (fun _ _ _ d _ h => by cases d <;> exact h) ?_; simp only [planL, nL]
  refine pL (v := ?_) rfl (fun W => ?_) ?_; rotate_left; (go_simp <;> with_reducible rfl); simp only [nP]
  refine pR (v := ?_) rfl (fun W => ?_) ?_; rotate_left; (go_simp <;> with_reducible rfl); simp only [nP]
  refine pL (v := ?_) rfl (fun W => ?_) ?_; rotate_left; (go_simp <;> with_reducible rfl); simp only [nP]
  iterate 2 (refine pR (v := ?_) rfl (fun W => ?_) ?_; rotate_left; (go_simp <;> with_reducible rfl); simp only [nP])
  refine pL (v := ?_) rfl (fun W => ?_) ?_; rotate_left; (go_simp <;> with_reducible rfl); simp only [nP]
  iterate 2 (refine pR (v := ?_) rfl (fun W => ?_) ?_; rotate_left; (go_simp <;> with_reducible rfl); simp only [nP])
  refine pX (v := ?_) rfl ?_ ?_; rotate_left; (go_simp <;> with_reducible rfl); simp only [nP]
  refine plan_does rfl (fun K hK => ?_)
  go_wp2_with fail
  refine (HC.out _ (HE.out.ext hE0)).mono ?_
  rintro r w2 ⟨rfl, hE2⟩
  have hE02 := hE0.ext hE2
  refine hK _ _ ⟨ClsE.of (by assumption), ?_⟩; clear hK K; try simp only [nP]
  refine pR (v := ?_) rfl (fun W => ?_) ?_; rotate_left; (go_simp <;> with_reducible rfl); simp only [nP]
  refine plan_nil ?_; simp only [tailL, List.filterMap_cons, List.filterMap_nil, nL]; change wpList _ _ _ (_ :: _ :: _ :: []) _ _
  clear cHB zHB lHB cBX zBX lBX
  go_wp2_with fail
  have by0 := (Box.new w2 4 [.bool m, .bool (decide (1 ≤ e.number)), .bool (decide (e.number ≤ 2147483647)), .bool ((chk e.text : Int) == 0)])
  have ey : Ext w2 (w2.alloc (Obj.cells #[.bool m, .bool (decide (1 ≤ e.number)), .bool (decide (e.number ≤ 2147483647)), .bool ((chk e.text : Int) == 0)] 4)) := ((Keeps.refl NoB w2).alloc _)
  have sy : (w2.alloc (Obj.cells #[.bool m, .bool (decide (1 ≤ e.number)), .bool (decide (e.number ≤ 2147483647)), .bool ((chk e.text : Int) == 0)] 4)).heap.size = w2.heap.size + 1 := by simp
  generalize (w2.alloc (Obj.cells #[.bool m, .bool (decide (1 ≤ e.number)), .bool (decide (e.number ≤ 2147483647)), .bool ((chk e.text : Int) == 0)] 4)) = w3 at by0 ey sy ⊢
  have Sy := Lib.hid sy
  clear sy
  have HE3 := Lib.hid ((HE.out.ext hE02).ext ey)
  refine (acc_all4 w3 _ _ _ _ _ by0).mono ?_
  rintro e' w4 ⟨rfl, rfl⟩
  clear ey by0 hE0 hE02 hE2
  have hs : (m && decide (1 ≤ e.number) && decide (e.number ≤ 2147483647) && ((chk e.text : Int) == 0)) = sayB m e := by
    have : ((chk e.text : Int) == 0) = (chk e.text == 0) := by
      rw [Bool.eq_iff_iff]; simp
    rw [this]; rfl
  rw [hs]
  clear hs
  go_wp2_with fail
  go_ret
  exact ⟨by simp, HE3.out⟩
/-- may an entry be? -/
def enB (e : En) : Bool := if e.kind = 1 then noneB e else if e.kind = 2 ∨ e.kind = 3 then memB e.member && aloneB e else if e.kind = 4 then sayB (memB e.member) e else false
def rightD (k : Nat) : List (Int × Value) := [(1, .func (.func 63) #[] #[]), (2, .func (.func 61) #[] #[.pointer (some ⟨k, 0, none⟩)]), (3, .func (.func 61) #[] #[.pointer (some ⟨k, 0, none⟩)]), (4, .func (.func 64) #[] #[.pointer (some ⟨k, 0, none⟩)])]
def nofn : Value := .nilFunc
theorem look_right (k : Nat) (e : En) (z : Value) : (e.kind = 1 ∧ lookI (rightD k) e.kind z = (.func (.func 63) #[] #[], true)) ∨ ((e.kind ≠ 1 ∧ (e.kind = 2 ∨ e.kind = 3)) ∧ lookI (rightD k) e.kind z = (.func (.func 61) #[] #[.pointer (some ⟨k, 0, none⟩)], true)) ∨
    ((e.kind ≠ 1 ∧ ¬ (e.kind = 2 ∨ e.kind = 3) ∧ e.kind = 4) ∧ lookI (rightD k) e.kind z = (.func (.func 64) #[] #[.pointer (some ⟨k, 0, none⟩)], true)) ∨ ((e.kind ≠ 1 ∧ ¬ (e.kind = 2 ∨ e.kind = 3) ∧ e.kind ≠ 4) ∧ lookI (rightD k) e.kind z = (z, false)) := by
  by_cases h1 : e.kind = 1
  · exact .inl ⟨h1, by rw [h1]; rfl⟩
  by_cases h2 : e.kind = 2
  · exact .inr (.inl ⟨⟨h1, .inl h2⟩, by rw [h2]; rfl⟩)
  by_cases h3 : e.kind = 3
  · exact .inr (.inl ⟨⟨h1, .inr h3⟩, by rw [h3]; rfl⟩)
  by_cases h4 : e.kind = 4
  · exact .inr (.inr (.inl ⟨⟨h1, by omega, h4⟩, by rw [h4]; rfl⟩))
  · refine .inr (.inr (.inr ⟨⟨h1, by omega, h4⟩, ?_⟩))
    unfold lookI rightD
    have a1 : ¬ (1 : Int) = e.kind := fun h => h1 h.symm
    have a2 : ¬ (2 : Int) = e.kind := fun h => h2 h.symm
    have a3 : ¬ (3 : Int) = e.kind := fun h => h3 h.symm
    have a4 : ¬ (4 : Int) = e.kind := fun h => h4 h.symm
    simp [a1, a2, a3, a4]
theorem zeroFn (w : World) : (zeroValue 78).run Tryd.prog w = .ok nofn w := by kernel_rfl
theorem right_any (w : World) (e : En) (hI : I64 e.kind)
    (hC : e.kind = 4 → ∀ w1, Ext w w1 → Calls Tryd.prog 65 #[.string (bs e.text)] w1 fun r w' => r = .returned (.int .i64 (chk e.text : Int)) ∧ Ext w1 w') :
    Calls Tryd.prog 43 #[e.v] w fun r w' => r = .returned (.bool (enB e)) ∧ Ext w w' := by
  have HC := Lib.hid hC
  have HI := Lib.hid hI
  clear hC hI
  unfold En.v
  by_cases hm : 0 ≤ e.member
  · have hXM : Hid ((decide (e.member < 16)) = memB e.member) := Lib.hid (by unfold memB; rw [decide_eq_true hm, Bool.true_and])
    go_enter Tryd.func43, Tryd.ntmps43
    go_wp2_with fail
    have bx0 := ((Box.new w 35 [.int .i64 e.kind, .int .i64 e.member, .int .i64 e.number, .string (bs e.text)]).alloc (Obj.cells #[.bool (decide (e.member < 16))] 4))
    have bx1 := (Box.new (w.alloc (Obj.cells #[.int .i64 e.kind, .int .i64 e.member, .int .i64 e.number, .string (bs e.text)] 35)) 4 [.bool (decide (e.member < 16))])
    have ex : Ext w ((w.alloc (Obj.cells #[.int .i64 e.kind, .int .i64 e.member, .int .i64 e.number, .string (bs e.text)] 35)).alloc (Obj.cells #[.bool (decide (e.member < 16))] 4)) := (((Keeps.refl NoB w).alloc _).alloc _)
    have sx : ((w.alloc (Obj.cells #[.int .i64 e.kind, .int .i64 e.member, .int .i64 e.number, .string (bs e.text)] 35)).alloc (Obj.cells #[.bool (decide (e.member < 16))] 4)).heap.size = w.heap.size + 2 := by simp
    simp only [World.size_alloc] at bx1
    generalize ((w.alloc (Obj.cells #[.int .i64 e.kind, .int .i64 e.member, .int .i64 e.number, .string (bs e.text)] 35)).alloc (Obj.cells #[.bool (decide (e.member < 16))] 4)) = w0 at bx0 bx1 ex sx ⊢
    have Sx := Lib.hid sx
    clear sx
    have HX := Lib.hid ex
    have B0 := Lib.hid bx0
    have B1 := Lib.hid bx1
    have hlt := bx1.lt
    clear ex bx0 bx1
    rw [hXM.out] at B1
    obtain ⟨k, hk⟩ : ∃ k, w.heap.size + 1 = k := ⟨_, rfl⟩
    have HKK := Lib.hid hk
    rw [hk]
    clear hk
    have hmm := run_makeMap (P := Tryd.prog) 114 w0
    have put := fun (w : World) (D : List (Int × Value)) (m : Nat) (h : MapI w m D) (n : Int) (hn : I64 n) (hne : ∀ p ∈ D, p.1 ≠ n) (v : Value) => h.put Tryd.underlying114 Tryd.underlying33 hn hne v
    obtain ⟨w1, r1, m1, k1⟩ := put _ _ _ (mapi_new w0) 1 (i64_lit 1 rfl) (by simp) (.func (.func 63) #[] #[])
    obtain ⟨w2, r2, m2, k2⟩ := put _ _ _ m1 2 (i64_lit 2 rfl) (by simp) (.func (.func 61) #[] #[.pointer (some ⟨k, 0, none⟩)])
    obtain ⟨w3, r3, m3, k3⟩ := put _ _ _ m2 3 (i64_lit 3 rfl) (by simp) (.func (.func 61) #[] #[.pointer (some ⟨k, 0, none⟩)])
    obtain ⟨w4, r4, m4, k4⟩ := put _ _ _ m3 4 (i64_lit 4 rfl) (by simp) (.func (.func 64) #[] #[.pointer (some ⟨k, 0, none⟩)])
    have hE4 : Ext w0 w4 := ((Keeps.refl NoB w0).alloc _).then (((k1.trans k2).trans k3).trans k4) fun i hi h => absurd (show i = w0.heap.size from h) (by omega)
    have hlk : (Instr.lookup 114 (.map (some w0.heap.size)) (.int .i64 e.kind) true).run Tryd.prog w4 = .ok (.tuple #[(lookI (rightD k) e.kind nofn).1, .bool (lookI (rightD k) e.kind nofn).2]) w4 :=
      MapI.look (D := rightD k) m4 Tryd.underlying114 Tryd.underlying33 zeroFn HI.out (by unfold rightD; simp) true
    replace B0 := Lib.hid (B0.out.ext hE4)
    replace B1 := Lib.hid (B1.out.ext hE4)
    have HE := Lib.hid (HX.out.ext hE4)
    clear m1 m2 m3 m4 k1 k2 k3 k4 put hE4 hlt
    obtain ⟨cB0, zB0⟩ := B0.out.reads
    have lB0 := B0.out.lt
    rcases look_right k e nofn with ⟨h1, h2⟩ | ⟨h1, h2⟩ | ⟨h1, h2⟩ | ⟨h1, h2⟩
    · rw [h2] at hlk
      have H1 := Lib.hid h1
      clear h1 h2
      go_wp2_with fail
      refine (right2_any _ e).mono ?_
      rintro r w5 ⟨rfl, hE5⟩
      have HE5 := Lib.hid (HE.out.ext hE5)
      clear hE5
      clear cB0 zB0 lB0
      go_wp2_with fail
      go_ret
      exact ⟨by rw [enB, if_pos H1.out]; simp, HE5.out⟩
    · rw [h2] at hlk
      have H1 := Lib.hid h1
      clear h1 h2
      go_wp2_with fail
      refine (right1_any _ k (memB e.member) e (by have h9 := B1.out; rw [HKK.out] at h9; exact h9)).mono ?_
      rintro r w5 ⟨rfl, hE5⟩
      have HE5 := Lib.hid (HE.out.ext hE5)
      clear hE5
      clear cB0 zB0 lB0
      go_wp2_with fail
      go_ret
      exact ⟨by rw [enB, if_neg H1.out.1, if_pos H1.out.2]; simp, HE5.out⟩
    · rw [h2] at hlk
      have H1 := Lib.hid h1
      clear h1 h2
      go_wp2_with fail
      refine (right3_any _ k (memB e.member) e (by have h9 := B1.out; rw [HKK.out] at h9; exact h9) (fun W hW => HC.out H1.out.2.2 W (HE.out.ext hW))).mono ?_
      rintro r w5 ⟨rfl, hE5⟩
      have HE5 := Lib.hid (HE.out.ext hE5)
      clear hE5
      clear cB0 zB0 lB0
      go_wp2_with fail
      go_ret
      exact ⟨by rw [enB, if_neg H1.out.1, if_neg H1.out.2.1, if_pos H1.out.2.2]; simp, HE5.out⟩
    · rw [h2] at hlk
      have H1 := Lib.hid h1
      clear h1 h2
      go_wp2_with fail
      clear cB0 zB0 lB0
      go_ret
      exact ⟨by rw [enB, if_neg H1.out.1, if_neg H1.out.2.1, if_neg H1.out.2.2]; simp, HE.out⟩
  · have hXM : Hid (false = memB e.member) := Lib.hid (by unfold memB; rw [decide_eq_false hm, Bool.false_and])
    have hm2 : e.member < 0 := by omega
    go_enter Tryd.func43, Tryd.ntmps43
    go_wp2_with fail
    have bx0 := ((Box.new w 35 [.int .i64 e.kind, .int .i64 e.member, .int .i64 e.number, .string (bs e.text)]).alloc (Obj.cells #[.bool false] 4))
    have bx1 := (Box.new (w.alloc (Obj.cells #[.int .i64 e.kind, .int .i64 e.member, .int .i64 e.number, .string (bs e.text)] 35)) 4 [.bool false])
    have ex : Ext w ((w.alloc (Obj.cells #[.int .i64 e.kind, .int .i64 e.member, .int .i64 e.number, .string (bs e.text)] 35)).alloc (Obj.cells #[.bool false] 4)) := (((Keeps.refl NoB w).alloc _).alloc _)
    have sx : ((w.alloc (Obj.cells #[.int .i64 e.kind, .int .i64 e.member, .int .i64 e.number, .string (bs e.text)] 35)).alloc (Obj.cells #[.bool false] 4)).heap.size = w.heap.size + 2 := by simp
    simp only [World.size_alloc] at bx1
    generalize ((w.alloc (Obj.cells #[.int .i64 e.kind, .int .i64 e.member, .int .i64 e.number, .string (bs e.text)] 35)).alloc (Obj.cells #[.bool false] 4)) = w0 at bx0 bx1 ex sx ⊢
    have Sx := Lib.hid sx
    clear sx
    have HX := Lib.hid ex
    have B0 := Lib.hid bx0
    have B1 := Lib.hid bx1
    have hlt := bx1.lt
    clear ex bx0 bx1
    rw [hXM.out] at B1
    obtain ⟨k, hk⟩ : ∃ k, w.heap.size + 1 = k := ⟨_, rfl⟩
    have HKK := Lib.hid hk
    rw [hk]
    clear hk
    have hmm := run_makeMap (P := Tryd.prog) 114 w0
    have put := fun (w : World) (D : List (Int × Value)) (m : Nat) (h : MapI w m D) (n : Int) (hn : I64 n) (hne : ∀ p ∈ D, p.1 ≠ n) (v : Value) => h.put Tryd.underlying114 Tryd.underlying33 hn hne v
    obtain ⟨w1, r1, m1, k1⟩ := put _ _ _ (mapi_new w0) 1 (i64_lit 1 rfl) (by simp) (.func (.func 63) #[] #[])
    obtain ⟨w2, r2, m2, k2⟩ := put _ _ _ m1 2 (i64_lit 2 rfl) (by simp) (.func (.func 61) #[] #[.pointer (some ⟨k, 0, none⟩)])
    obtain ⟨w3, r3, m3, k3⟩ := put _ _ _ m2 3 (i64_lit 3 rfl) (by simp) (.func (.func 61) #[] #[.pointer (some ⟨k, 0, none⟩)])
    obtain ⟨w4, r4, m4, k4⟩ := put _ _ _ m3 4 (i64_lit 4 rfl) (by simp) (.func (.func 64) #[] #[.pointer (some ⟨k, 0, none⟩)])
    have hE4 : Ext w0 w4 := ((Keeps.refl NoB w0).alloc _).then (((k1.trans k2).trans k3).trans k4) fun i hi h => absurd (show i = w0.heap.size from h) (by omega)
    have hlk : (Instr.lookup 114 (.map (some w0.heap.size)) (.int .i64 e.kind) true).run Tryd.prog w4 = .ok (.tuple #[(lookI (rightD k) e.kind nofn).1, .bool (lookI (rightD k) e.kind nofn).2]) w4 :=
      MapI.look (D := rightD k) m4 Tryd.underlying114 Tryd.underlying33 zeroFn HI.out (by unfold rightD; simp) true
    replace B0 := Lib.hid (B0.out.ext hE4)
    replace B1 := Lib.hid (B1.out.ext hE4)
    have HE := Lib.hid (HX.out.ext hE4)
    clear m1 m2 m3 m4 k1 k2 k3 k4 put hE4 hlt
    obtain ⟨cB0, zB0⟩ := B0.out.reads
    have lB0 := B0.out.lt
    rcases look_right k e nofn with ⟨h1, h2⟩ | ⟨h1, h2⟩ | ⟨h1, h2⟩ | ⟨h1, h2⟩
    · rw [h2] at hlk
      have H1 := Lib.hid h1
      clear h1 h2
      go_wp2_with fail
      refine (right2_any _ e).mono ?_
      rintro r w5 ⟨rfl, hE5⟩
      have HE5 := Lib.hid (HE.out.ext hE5)
      clear hE5
      clear cB0 zB0 lB0
      go_wp2_with fail
      go_ret
      exact ⟨by rw [enB, if_pos H1.out]; simp, HE5.out⟩
    · rw [h2] at hlk
      have H1 := Lib.hid h1
      clear h1 h2
      go_wp2_with fail
      refine (right1_any _ k (memB e.member) e (by have h9 := B1.out; rw [HKK.out] at h9; exact h9)).mono ?_
      rintro r w5 ⟨rfl, hE5⟩
      have HE5 := Lib.hid (HE.out.ext hE5)
      clear hE5
      clear cB0 zB0 lB0
      go_wp2_with fail
      go_ret
      exact ⟨by rw [enB, if_neg H1.out.1, if_pos H1.out.2]; simp, HE5.out⟩
    · rw [h2] at hlk
      have H1 := Lib.hid h1
      clear h1 h2
      go_wp2_with fail
      refine (right3_any _ k (memB e.member) e (by have h9 := B1.out; rw [HKK.out] at h9; exact h9) (fun W hW => HC.out H1.out.2.2 W (HE.out.ext hW))).mono ?_
      rintro r w5 ⟨rfl, hE5⟩
      have HE5 := Lib.hid (HE.out.ext hE5)
      clear hE5
      clear cB0 zB0 lB0
      go_wp2_with fail
      go_ret
      exact ⟨by rw [enB, if_neg H1.out.1, if_neg H1.out.2.1, if_pos H1.out.2.2]; simp, HE5.out⟩
    · rw [h2] at hlk
      have H1 := Lib.hid h1
      clear h1 h2
      go_wp2_with fail
      clear cB0 zB0 lB0
      go_ret
      exact ⟨by rw [enB, if_neg H1.out.1, if_neg H1.out.2.1, if_neg H1.out.2.2]; simp, HE.out⟩
end Go.Proofs.YthhdgjofagdjeaaDoor
end
section
/- A talk in memory, and what is asked of it without turning it. Condition: it lies as 'TalkAt' says. -/
set_option linter.unusedVariables false
set_option linter.unusedSimpArgs false
set_option maxHeartbeats 400000
set_option maxRecDepth 10000
namespace Go.Proofs.YthhdgjofagdjeaaDoor
open Go.RowKit

structure St where
  inn : Bool
  joined : Int
  last : Int
deriving DecidableEq
structure Ln where
  idx : Int
  slot : Int
  e : En
deriving DecidableEq
structure TA where
  l : List Ln
  slot : Int
  st : List St
def St.cells (s : St) : List Value := [.bool s.inn, .int .i64 s.joined, .int .i64 s.last]
def St.v (s : St) : Value := .agg #[.bool s.inn, .int .i64 s.joined, .int .i64 s.last]
def Ln.cells (x : Ln) : List Value := [.int .i64 x.idx, .int .i64 x.slot, .int .i64 x.e.kind, .int .i64 x.e.member, .int .i64 x.e.number, .string (bs x.e.text)]
def Ln.v (x : Ln) : Value := .agg #[.int .i64 x.idx, .int .i64 x.slot, .int .i64 x.e.kind, .int .i64 x.e.member, .int .i64 x.e.number, .string (bs x.e.text)]
def stsC (l : List St) : List Value := (l.map St.cells).flatten
def lnsC (l : List Ln) : List Value := (l.map Ln.cells).flatten
def TA.cells (T : TA) (v : Value) : List Value := v :: .int .i64 T.slot :: (stsC T.st ++ [.bool true])
theorem stsC_len (l : List St) : (stsC l).length = l.length * 3 := by
  unfold stsC
  rw [flat_len_uniform (sz := 3) _ (fun j h => by simp [St.cells]), List.length_map]
theorem lnsC_len (l : List Ln) : (lnsC l).length = l.length * 6 := by
  unfold lnsC
  rw [flat_len_uniform (sz := 6) _ (fun j h => by simp [Ln.cells]), List.length_map]
theorem stsC_get (l : List St) (j i : Nat) (hj : j < l.length) (hi : i < 3) : (stsC l)[j * 3 + i]? = (l[j].cells)[i]? := by
  unfold stsC
  rw [flat_get (sz := 3) _ j i (by simpa using hj) (fun j h => by simp [St.cells]) hi]
  simp
theorem lnsC_get (l : List Ln) (j i : Nat) (hj : j < l.length) (hi : i < 6) : (lnsC l)[j * 6 + i]? = (l[j].cells)[i]? := by
  unfold lnsC
  rw [flat_get (sz := 6) _ j i (by simpa using hj) (fun j h => by simp [Ln.cells]) hi]
  simp
structure TalkAt (w : World) (F : Nat → Prop) (b : Nat) (v : Value) (T : TA) : Prop where
  box : Box w b 93 (T.cells v)
  win : Win w 0 6 v T.l.length (lnsC T.l)
  fb : F b
  fv : ∀ g, v.ownBlock = some g → F g ∧ g ≠ b
  lt : ∀ k, F k → k < w.heap.size
  sts : T.st.length = 16
def TalkX (w : World) (F : Nat → Prop) (b : Nat) (T : TA) : Prop := ∃ v, TalkAt w F b v T
section
variable {w w' : World} {F F' S : Nat → Prop} {b : Nat} {v : Value} {T : TA}
theorem TalkAt.keeps (h : TalkAt w F b v T) (hk : Keeps S w w') (hS : ∀ k, F k → ¬ S k) : TalkAt w' F b v T :=
  ⟨h.box.keeps hk (hS b h.fb), h.win.keeps hk fun g hg => hS g (h.fv g hg).1, h.fb, h.fv, fun k hF => Nat.lt_of_lt_of_le (h.lt k hF) hk.size, h.sts⟩
theorem TalkX.keeps (h : TalkX w F b T) (hk : Keeps S w w') (hS : ∀ k, F k → ¬ S k) : TalkX w' F b T := let ⟨v, h⟩ := h; ⟨v, h.keeps hk hS⟩
theorem TalkX.ext (h : TalkX w F b T) (hk : Ext w w') : TalkX w' F b T := h.keeps hk fun _ _ => noB _
theorem TalkX.mono (h : TalkX w F b T) (hF : ∀ k, F k → F' k) (hlt : ∀ k, F' k → k < w.heap.size) : TalkX w F' b T :=
  let ⟨v, h⟩ := h; ⟨v, h.box, h.win, hF _ h.fb, fun g hg => ⟨hF _ (h.fv g hg).1, (h.fv g hg).2⟩, hlt, h.sts⟩
theorem TalkAt.see (h : TalkAt w F b v T) : w.cell? ⟨b, 0, none⟩ = some v ∧ w.cell? ⟨b, 1, none⟩ = some (.int .i64 T.slot) ∧ w.cell? ⟨b, 50, none⟩ = some (.bool true) ∧ b < w.heap.size := by
  have h1 := h.box.reads.1
  have hl := stsC_len T.st
  rw [h.sts] at hl
  refine ⟨h1 0, h1 1, ?_, h.box.lt⟩
  rw [h1 50]
  show ((stsC T.st ++ [.bool true]) : List Value)[48]? = _
  rw [List.getElem?_append_right (by omega), hl]
  rfl
theorem TalkAt.len (h : TalkAt w F b v T) : ∃ a c, v = .slice a T.l.length c := h.win.len
end

theorem talk_none {F : Nat → Prop} (w : World) (b : Nat) (T : TA) (h : TalkX w F b T) : Calls Tryd.prog 54 #[.pointer (some ⟨b, 0, none⟩)] w fun e w' => e = .returned (.bool false) ∧ w' = w := by
  obtain ⟨v, h⟩ := h
  obtain ⟨c0, c1, c50, lt⟩ := h.see
  clear h
  go_enter Tryd.func54, Tryd.ntmps54
  go_wp2_with fail
  go_ret
  exact ⟨rfl, rfl⟩
theorem talk_len1 {F : Nat → Prop} (w : World) (b : Nat) (T : TA) (h : TalkX w F b T) : Calls Tryd.prog 37 #[.pointer (some ⟨b, 0, none⟩)] w fun e w' => e = .returned (.int .i64 (T.l.length : Int)) ∧ w' = w := by
  obtain ⟨v, h⟩ := h
  obtain ⟨c0, c1, c50, lt⟩ := h.see
  obtain ⟨a, c, rfl⟩ := h.len
  clear h
  go_enter Tryd.func37, Tryd.ntmps37
  go_wp2_with fail
  go_ret
  exact ⟨rfl, rfl⟩
theorem talk_slot1 {F : Nat → Prop} (w : World) (b : Nat) (T : TA) (h : TalkX w F b T) : Calls Tryd.prog 68 #[.pointer (some ⟨b, 0, none⟩)] w fun e w' => e = .returned (.int .i64 T.slot) ∧ w' = w := by
  obtain ⟨v, h⟩ := h
  obtain ⟨c0, c1, c50, lt⟩ := h.see
  clear h
  go_enter Tryd.func68, Tryd.ntmps68
  go_wp2_with fail
  go_ret
  exact ⟨rfl, rfl⟩
theorem talk_len_told {F : Nat → Prop} (w : World) (b : Nat) (T : TA) (h : TalkX w F b T) : Calls Tryd.prog 36 #[.pointer (some ⟨b, 0, none⟩), .func (.func 37) #[] #[]] w fun e w' => e = .returned (.int .i64 (T.l.length : Int)) ∧ w' = w := by
  have HT := Lib.hid h
  clear h
  go_enter Tryd.func36, Tryd.ntmps36
  go_wp2_with fail
  refine (talk_none w b T HT.out).mono ?_
  rintro e w' ⟨rfl, rfl⟩
  go_wp2_with fail
  refine (talk_len1 _ b T HT.out).mono ?_
  rintro e w' ⟨rfl, rfl⟩
  go_wp2_with fail
  go_ret
  exact ⟨rfl, rfl⟩
theorem talk_len {F : Nat → Prop} (w : World) (b : Nat) (T : TA) (h : TalkX w F b T) : Calls Tryd.prog 17 #[.pointer (some ⟨b, 0, none⟩)] w fun e w' => e = .returned (.int .i64 (T.l.length : Int)) ∧ w' = w := by
  go_enter Tryd.func17, Tryd.ntmps17
  go_wp2_with fail
  refine (talk_len_told w b T h).mono ?_
  rintro e w' ⟨rfl, rfl⟩
  go_wp2_with fail
  go_ret
  exact ⟨rfl, rfl⟩
theorem talk_slot_told {F : Nat → Prop} (w : World) (b : Nat) (T : TA) (h : TalkX w F b T) : Calls Tryd.prog 67 #[.pointer (some ⟨b, 0, none⟩), .func (.func 68) #[] #[]] w fun e w' => e = .returned (.int .i64 T.slot) ∧ w' = w := by
  have HT := Lib.hid h
  clear h
  go_enter Tryd.func67, Tryd.ntmps67
  go_wp2_with fail
  refine (talk_none w b T HT.out).mono ?_
  rintro e w' ⟨rfl, rfl⟩
  go_wp2_with fail
  refine (talk_slot1 _ b T HT.out).mono ?_
  rintro e w' ⟨rfl, rfl⟩
  go_wp2_with fail
  go_ret
  exact ⟨rfl, rfl⟩
theorem talk_slot {F : Nat → Prop} (w : World) (b : Nat) (T : TA) (h : TalkX w F b T) : Calls Tryd.prog 48 #[.pointer (some ⟨b, 0, none⟩)] w fun e w' => e = .returned (.int .i64 T.slot) ∧ w' = w := by
  go_enter Tryd.func48, Tryd.ntmps48
  go_wp2_with fail
  refine (talk_slot_told w b T h).mono ?_
  rintro e w' ⟨rfl, rfl⟩
  go_wp2_with fail
  go_ret
  exact ⟨rfl, rfl⟩
end Go.Proofs.YthhdgjofagdjeaaDoor
end
