/- Texts Auto, WideS, Agg, Sum, Seal, Byt, CutS, one behind the other. Conditions: as each says. -/
import Derived.Test.YtoadjbgpfihoiaaGreatDoorPlD
import Derived.Test.YtoadjbgpfihoiaaGreatDoorPlF
import Derived.Test.YtoadjbgpfihoiaaGreatDoorPlG
import Derived.Test.YtoadjbgpfihoiaaGreatDoorPlH
import Derived.Test.YtoadjbgpfihoiaaGreatDoorPlI
import Derived.ChangeKeysEq
import Derived.Deep.AppendSrc
import Derived.Deep.CutRange
set_option linter.unusedVariables false
set_option linter.unusedSimpArgs false
set_option maxHeartbeats 8000000
set_option maxRecDepth 100000
namespace Go.Proofs.YtoadjbgpfihoiaaGreatDoor
open Go.RowKit
section
class Sz (w : World) (n : outParam Nat) : Prop where
 out : w.heap.size = n
instance (priority := low) szB (w : World) : Sz w w.heap.size := ⟨rfl⟩
instance szA (w : World) (o : Obj) (n : Nat) [h : Sz w n] : Sz (w.alloc o) (n + 1) := ⟨by rw [World.size_alloc, h.out]⟩
instance szS (w : World) (a : Addr) (v : Value) (n : Nat) [h : Sz w n] : Sz (w.setCell a v) n := ⟨by rw [World.size_setCell, h.out]⟩
instance szD (w : World) (n : Nat) [h : Sz w n] : Sz w.drew n := ⟨h.out⟩
class St' (cs : List Value) (o : Nat) (v : Value) (cs' : outParam (List Value)) : Prop where
 out : cs.set o v = cs'
instance (priority := low) stB (cs : List Value) (o : Nat) (v : Value) : St' cs o v (cs.set o v) := ⟨rfl⟩
instance st0 (a : Value) (l : List Value) (v : Value) : St' (a :: l) 0 v (v :: l) := ⟨rfl⟩
instance stS (a : Value) (l l' : List Value) (n : Nat) (v : Value) [h : St' l n v l'] : St' (a :: l) (n + 1) v (a :: l') := ⟨by rw [List.set_cons_succ, h.out]⟩
class PkB (L : List Res) (b : Nat) (t : outParam TypeId) (cs : outParam (List Value)) (L' : outParam (List Res)) : Prop where
 out : Pick L (cellsR b t cs) L'
instance (priority := high) pkb0 (b : Nat) (t : TypeId) (cs : List Value) (L : List Res) : PkB (cellsR b t cs :: L) b t cs L := ⟨.here⟩
instance pkbS (x : Res) (L L' : List Res) (b : Nat) (t : TypeId) (cs : List Value) [h : PkB L b t cs L'] : PkB (x :: L) b t cs (x :: L') := ⟨.there h.out⟩
class Pk (L : List Res) (r : Res) (L' : outParam (List Res)) : Prop where
 out : Pick L r L'
instance (priority := high) pk0 (r : Res) (L : List Res) : Pk (r :: L) r L := ⟨.here⟩
instance pkS (x r : Res) (L L' : List Res) [h : Pk L r L'] : Pk (x :: L) r (x :: L') := ⟨.there h.out⟩
class Wo (w : World) (L : List Res) (w' : World) (L' : outParam (List Res)) : Prop where
 out : ∀ F w0, Mem F w0 w L → Mem F w0 w' L'
instance (priority := high) wo0 (w : World) (L : List Res) : Wo w L w L := ⟨fun _ _ h => h⟩
instance woD (w : World) (L : List Res) (w' : World) (L' : List Res) [h : Wo w L w' L'] : Wo w L w'.drew L' := ⟨fun _ _ m => (h.out _ _ m).drew⟩
instance woA (w : World) (L : List Res) (w' : World) (L' : List Res) (cs : List Value) (t : TypeId) (n : Nat) [h : Wo w L w' L'] [s : Sz w' n] : Wo w L (w'.alloc (.cells cs.toArray t)) (cellsR n t cs :: L') := ⟨fun _ _ m => (h.out _ _ m).alloc s.out⟩
instance (priority := low) woO (w : World) (L : List Res) (w' : World) (L' : List Res) (o : Obj) [h : Wo w L w' L'] : Wo w L (w'.alloc o) L' := ⟨fun _ _ m => (h.out _ _ m).allocO⟩
instance woS (w : World) (L : List Res) (w' : World) (L1 L2 : List Res) (b o : Nat) (v : Value) (t : TypeId) (cs cs' : List Value) [h : Wo w L w' L1] [p : PkB L1 b t cs L2] [s : St' cs o v cs'] : Wo w L (w'.setCell ⟨b, o, none⟩ v) (cellsR b t cs' :: L2) :=
 ⟨fun _ _ m => by rw [← s.out]; exact (h.out _ _ m).set p.out⟩
class Ap (b : Nat) (L : List Res) (p : outParam Prop) : Prop where
 out : ∀ w G, SepL L G w → ¬ G b → p
instance ap0 (b : Nat) : Ap b [] True := ⟨fun _ _ _ _ => trivial⟩
instance apC (b c : Nat) (t : TypeId) (cs : List Value) (L : List Res) (p : Prop) [h : Ap b L p] : Ap b (cellsR c t cs :: L) (¬ b = c ∧ ¬ c = b ∧ p) :=
 ⟨fun w G ⟨A, B, h1, h2, h3, h4⟩ hG => ⟨fun e => hG ((h4 b).2 (.inl ((h1.1 b).2 e))), fun e => hG ((h4 b).2 (.inl ((h1.1 b).2 e.symm))), h.out w B h2 fun hB => hG ((h4 b).2 (.inr hB))⟩⟩
instance (priority := low) apR (b : Nat) (r : Res) (L : List Res) (p : Prop) [h : Ap b L p] : Ap b (r :: L) p :=
 ⟨fun w G ⟨A, B, h1, h2, h3, h4⟩ hG => h.out w B h2 fun hB => hG ((h4 b).2 (.inr hB))⟩
class Fa (w : World) (L : List Res) (p : outParam Prop) : Prop where
 out : ∀ G, SepL L G w → p
instance fa0 (w : World) : Fa w [] True := ⟨fun _ _ => trivial⟩
instance faC (w : World) (b : Nat) (t : TypeId) (cs : List Value) (L : List Res) (q p : Prop) [h : Ap b L q] [g : Fa w L p] :
 Fa w (cellsR b t cs :: L) ((∀ o, w.cell? ⟨b, o, none⟩ = cs[o]?) ∧ (∀ o, w.frozen? ⟨b, o, none⟩ = false) ∧ b < w.heap.size ∧ q ∧ p) :=
 ⟨fun G ⟨A, B, h1, h2, h3, h4⟩ => ⟨h1.2.reads.1, h1.2.reads.2, h1.2.lt, h.out w B h2 (h3 b ((h1.1 b).2 rfl)), g.out B h2⟩⟩
instance (priority := low) faR (w : World) (r : Res) (L : List Res) (p : Prop) [g : Fa w L p] : Fa w (r :: L) p := ⟨fun G ⟨A, B, h1, h2, h3, h4⟩ => g.out B h2⟩
class Gl (p : Prop) (G : outParam (World → Prop)) (w : outParam World) : Prop where
 out : G w → p
instance gl1 (P : Program) (f : FuncId) (args : Array Value) (K : Ending → World → Prop) (w : World) : Gl (Calls P f args w K) (fun w => Calls P f args w K) w := ⟨id⟩
instance gl2 (P : Program) (ops : Array Oper) (Q : Exit → Act → World → Prop) (l : List Oper) (a : Act) (w : World) : Gl (Stopped (wpList P ops Q l a w)) (fun w => Stopped (wpList P ops Q l a w)) w := ⟨id⟩
instance gl3 (P : Program) (ops : Array Oper) (Q : Exit → Act → World → Prop) (l : List Oper) (a : Act) (w : World) : Gl (wpList P ops Q l a w) (fun w => wpList P ops Q l a w) w := ⟨id⟩
instance gl4 (P : Program) (c : Code) (Q : Exit → Act → World → Prop) (a : Act) (w : World) : Gl (c.wp P Q a w) (fun w => c.wp P Q a w) w := ⟨id⟩
instance gl5 (P : Program) (fn : Func) (R : Ending → World → Prop) (e : Exit) (a : Act) (w : World) : Gl (bodyPostD P fn R e a w) (fun w => bodyPostD P fn R e a w) w := ⟨id⟩
instance gl6 (P : Program) (fn : Func) (R : Ending → World → Prop) (e : Exit) (a : Act) (w : World) : Gl (bodyPost P fn R e a w) (fun w => bodyPost P fn R e a w) w := ⟨id⟩
instance gl7 (F : Nat → Prop) (w0 : World) (r : Res) (w : World) : Gl (Upd F w0 w r) (fun w => Upd F w0 w r) w := ⟨id⟩
instance gl8 (P : Program) (c : Code) (Q : Exit → Act → World → Prop) (n : Nat) (a : Act) (w : World) : Gl (Code.rounds P c Q n a w) (fun w => Code.rounds P c Q n a w) w := ⟨id⟩
section
variable {F : Nat → Prop} {w0 w w' w1 : World} {L L' L1 L2 : List Res} {p : Prop}
theorem Mem.to (m : Mem F w0 w L) [h : Wo w L w' L'] : Mem F w0 w' L' := h.out _ _ m
theorem Mem.fa (m : Mem F w0 w L) [h : Fa w L p] : p := let ⟨_, G, s, _⟩ := m; h.out G s
theorem nxt {G : World → Prop} [g : Gl p G w'] (m : Hid (Mem F w0 w L)) [h : Wo w L w' L'] (k : ∀ w, Hid (Mem F w0 w L') → G w) : p := g.out (k _ (Hd m.out.to))
end
class Wd (n : Nat) (cs : List Value) : Prop where
 len : cs.length = n
 one : ∀ u ∈ cs, u.oneCell' = true
class One (v : Value) : Prop where
 out : v.oneCell' = true
instance oneI (k : IntKind) (n : Int) : One (.int k n) := ⟨rfl⟩
instance oneB (b : Bool) : One (.bool b) := ⟨rfl⟩
instance oneT (s : ByteArray) : One (.string s) := ⟨rfl⟩
instance oneP (a : Option Addr) : One (.pointer a) := ⟨rfl⟩
instance oneL (a : Option Addr) (n c : Nat) : One (.slice a n c) := ⟨rfl⟩
instance oneM (m : Option Nat) : One (.map m) := ⟨rfl⟩
instance wdS (n : Nat) (cs : List Value) (i : Nat) (v : Value) [h : Wd n cs] [g : One v] : Wd n (cs.set i v) := ⟨by rw [List.length_set, h.len], one_set h.one g.out i⟩
section
variable {P : Program} {ops : Array Oper} {rest : List Oper} {o : Oper} {a : Act} {w w0 w1 : World} {Q : Exit → Act → World → Prop} {F : Nat → Prop} {L L1 L2 : List Res} {d : TypeDesc} {b n : Nat} {t : TypeId} {cs vs : List Value}
theorem lvW (ty : TypeId) (m : Mem F w0 w1 L) [Wo w1 L w L1] [p : PkB L1 b t cs L2] (hu : P.underlying ty = some d) (hd : (match d with | .struct _ | .array _ _ => true | _ => false) = true) (hi : (P.info? ty).map (·.size) = some n) [q : Wd n cs] :
 (loadVar ty ⟨b, 0, none⟩).run P w = .ok (.agg cs.toArray) w := loadVar_wide ty (m.to (w' := w)) p.out hu hd (hi.trans (congrArg some q.len.symm))
theorem elW (ty : TypeId) (x : Operand) (ho : o.op = .load ty x) (hx : a.eval x = .pointer (some ⟨b, 0, none⟩)) (m : Mem F w0 w1 L) [Wo w1 L w L1] [p : PkB L1 b t cs L2] (hu : P.underlying ty = some d) (hd : (match d with | .struct _ | .array _ _ => true | _ => false) = true) (hi : (P.info? ty).map (·.size) = some n) [q : Wd n cs] :
 (execOp a.eval o).run P w = .ok (.value (.agg cs.toArray)) w := by
 have := lvW (w := w) (b := b) (t := t) (cs := cs) (L1 := L1) (L2 := L2) ty m hu hd hi; simp [execOp, ho, hx, Instr.loadAt, Instr.sureAddr, Sem.run_bind, Result.andThen, this]
theorem ldW (ty : TypeId) (x : Operand) (ho : o.op = .load ty x) (hw : Region.wanted o (yielded ops a.tmps) = true) (hx : a.eval x = .pointer (some ⟨b, 0, none⟩)) (m : Mem F w0 w1 L) [Wo w1 L w L1] [p : PkB L1 b t cs L2] (hu : P.underlying ty = some d)
 (hd : (match d with | .struct _ | .array _ _ => true | _ => false) = true) (hi : (P.info? ty).map (·.size) = some n) [q : Wd n cs] (k : wpList P ops Q rest (a.put o.dst (.agg cs.toArray)) w) : wpList P ops Q (o :: rest) a w := by
 have h2 := elW (w := w) ty x ho hx m hu hd hi; unfold wpList; rw [if_pos hw]; refine .inl ?_; unfold Oper.wp; rw [h2]; exact k
theorem stW (ty : TypeId) (x y : Operand) (ho : o.op = .store ty x y) (hg : o.guard = none) (hx : a.eval x = .pointer (some ⟨b, 0, none⟩)) (hy : a.eval y = .agg vs.toArray) (m : Mem F w0 w1 L) [Wo w1 L w L1] [p : PkB L1 b t cs L2] (hi : (P.info? ty).map (·.size) = some n)
 [q : Wd n cs] [g : Wd n vs] (k : ∀ w', Mem F w0 w' (cellsR b t vs :: L2) → wpList P ops Q rest (a.put o.dst undef) w') : wpList P ops Q (o :: rest) a w :=
 mem_store_wide ty x y ho hg hx hy (m.to (w' := w)) p.out hi g.len q.len g.one k
theorem boW (ty : TypeId) (x : Operand) (ho : o.op = .box ty x) (hg : o.guard = none) (hx : a.eval x = .agg vs.toArray) (m : Mem F w0 w1 L) [Wo w1 L w L1]
 (k : ∀ w' n, Mem F w0 w' (cellsR n ty vs :: L1) → wpList P ops Q rest (a.put o.dst (.pointer (some ⟨n, 0, none⟩))) w') : wpList P ops Q (o :: rest) a w := mem_box_wide ty x ho hg hx (m.to (w' := w)) k
theorem alW (ty : TypeId) (ho : o.op = .alloc ty) (hg : o.guard = none) (hz : (zeroValue ty).run P w = .ok (.agg vs.toArray) w) (m : Mem F w0 w1 L) [Wo w1 L w L1]
 (k : ∀ w' n, Mem F w0 w' (cellsR n ty vs :: L1) → wpList P ops Q rest (a.put o.dst (.pointer (some ⟨n, 0, none⟩))) w') : wpList P ops Q (o :: rest) a w := mem_alloc_wide ty ho hg hz (m.to (w' := w)) k
variable {C : World → Prop} {tail : Act → World → Prop} {r : List (Nat × Oper)} {v : Value}
theorem pM (x : Operand) (hw : Region.wanted o (yielded ops a.tmps) = true) (h : o.op = .move x) (k : Pl P ops Q C tail r (a.put o.dst (a.eval x)) w) : Pl P ops Q C tail ((0, o) :: r) a w := plan_pure hw fun K hK => quiet_move' x h (hK _ k)
theorem pA (x : Operand) (hw : Region.wanted o (yielded ops a.tmps) = true) (h : o.op = .assign x) (k : Pl P ops Q C tail r (a.put o.dst (a.eval x)) w) : Pl P ops Q C tail ((0, o) :: r) a w := plan_pure hw fun K hK => quiet_assign' x h (hK _ k)
theorem pR (hw : Region.wanted o (yielded ops a.tmps) = true) (h : ∀ w, (execOp a.eval o).run P w = .ok (.value v) w) (k : Pl P ops Q C tail r (a.put o.dst v) w) : Pl P ops Q C tail ((0, o) :: r) a w := plan_pure hw fun K hK => quiet_run v (fun w _ => h w) (hK _ k)
theorem pX (hw : Region.wanted o (yielded ops a.tmps) = true) (h : (execOp a.eval o).run P w = .ok (.value v) w) (k : Pl P ops Q C tail r (a.put o.dst v) w) : Pl P ops Q C tail ((3, o) :: r) a w := plan_exact hw fun K hK => quiet_runX v h (hK _ k)
theorem pL {wr : World} (hw : Region.wanted o (yielded ops a.tmps) = true) (h : ∀ y : ExtW wr, (execOp a.eval o).run P y.w = .ok (.value v) y.w) (k : Pl P ops Q (ClsE wr) tail r (a.put o.dst v) w) : Pl P ops Q (ClsE wr) tail ((1, o) :: r) a w := plan_load hw fun K hK => quiet_runE v h (hK _ k)
theorem pK {wr : World} {S : Nat → Prop} (hw : Region.wanted o (yielded ops a.tmps) = true) (h : ∀ y : KeepsW S wr, (execOp a.eval o).run P y.w = .ok (.value v) y.w) (k : Pl P ops Q (ClsK S wr) tail r (a.put o.dst v) w) : Pl P ops Q (ClsK S wr) tail ((1, o) :: r) a w := plan_load hw fun K hK => quiet_runK v h (hK _ k)
theorem pXW (ty : TypeId) (x : Operand) (hw : Region.wanted o (yielded ops a.tmps) = true) (ho : o.op = .load ty x) (hx : a.eval x = .pointer (some ⟨b, 0, none⟩)) (m : Mem F w0 w1 L) [Wo w1 L w L1] [p : PkB L1 b t cs L2] (hu : P.underlying ty = some d)
 (hd : (match d with | .struct _ | .array _ _ => true | _ => false) = true) (hi : (P.info? ty).map (·.size) = some n) [q : Wd n cs] (k : Pl P ops Q C tail r (a.put o.dst (.agg cs.toArray)) w) : Pl P ops Q C tail ((3, o) :: r) a w := pX hw (elW ty x ho hx m hu hd hi) k
end
theorem nL : (∀ (l : List Oper) (i : Nat), l.toArray[i]? = l[i]?) ∧ (∀ (a : Oper) (l : List Oper), (a :: l)[0]? = some a) ∧ (∀ (a : Oper) (l : List Oper) (n : Nat), (a :: l)[n + 1]? = l[n]?) := ⟨fun _ _ => by simp, fun _ _ => rfl, fun _ _ _ => rfl⟩
end
theorem osW {P : Program} {o : Oper} {a : Act} {w w0 w1 wr : World} {Q : Exit → Act → World → Prop} {F S : Nat → Prop} {L L1 L2 : List Res} {b n : Nat} {t : TypeId} {cs vs : List Value} {K : Act → World → Prop} (ty : TypeId) (x y : Operand) (ho : o.op = .store ty x y)
 (hx : a.eval x = .pointer (some ⟨b, 0, none⟩)) (hy : a.eval y = .agg vs.toArray) (m : Mem F w0 w1 L) [Wo w1 L w L1] [p : PkB L1 b t cs L2] (hi : (P.info? ty).map (·.size) = some n) [q : Wd n cs] [g : Wd n vs] (he : Keeps S wr w) (hb : S b)
 (k : ∀ w', Mem F w0 w' (cellsR b t vs :: L2) → Keeps S wr w' → K (a.put o.dst undef) w') : Oper.wp P o a w K Q := by
 obtain ⟨A, hA, hS⟩ := ((m.to (w' := w)).pick p.out).step
 obtain ⟨i, hi', hin⟩ : ∃ i, P.info? ty = some i ∧ i.size = n := by
  cases h : P.info? ty with
  | none => rw [h] at hi; cases hi
  | some i => rw [h] at hi; exact ⟨i, rfl, by simpa using hi⟩
 subst hin; have hbx : Box w b t cs := hA.2
 have hr := Lib.rl_storeVar_cells (P := P) ty i hi' b 0 vs g.len g.one w (fun k hk => by
  have := q.len; have := g.len; rw [hbx.reads.1, List.getElem?_eq_getElem (by omega)]; rfl) (fun k hk => by rw [hbx.reads.2])
 have hk : Keeps (OneB b) w (w.setCells b 0 vs) := (Keeps.refl _ _).setCells b 0 vs (.inl rfl); have hrun : (execOp a.eval o).run P w = .ok .skip (w.setCells b 0 vs) := by simp [execOp, ho, hx, hy, Instr.storeAt, Instr.sureAddr, Result.andThen, hr]
 unfold Oper.wp; rw [hrun]; exact k _ (hS (cellsR b t vs) _ ⟨A, ⟨hA.1, Box.setAll vs cs [] w hbx (by rw [q.len, g.len])⟩, hk.mono fun k _ h => (hA.1 k).2 h, fun k hk => .inl hk⟩) (he.trans (hk.mono fun k _ h => by rw [show k = b from h]; exact hb))
theorem elB {P : Program} {o : Oper} {a : Act} {w : World} {d : TypeDesc} {b n : Nat} {t : TypeId} {cs : List Value} (ty : TypeId) (x : Operand) (ho : o.op = .load ty x) (hx : a.eval x = .pointer (some ⟨b, 0, none⟩)) (hb : Box w b t cs) (hu : P.underlying ty = some d) (hd : (match d with | .struct _ | .array _ _ => true | _ => false) = true)
 (hi : (P.info? ty).map (·.size) = some n) [q : Wd n cs] : (execOp a.eval o).run P w = .ok (.value (.agg cs.toArray)) w := by
 have h1 : (loadVar ty ⟨b, 0, none⟩).run P w = .ok (.agg cs.toArray) w := run_loadVar_row w b t ty cs.toArray (0, 0) d hb hu hd (by rw [hi]; simp [q.len]); simp [execOp, ho, hx, Instr.loadAt, Instr.sureAddr, Sem.run_bind, Result.andThen, h1]
theorem Mem.ne {F : Nat → Prop} {w0 w : World} {L L1 L2 : List Res} {a b : Nat} {t u : TypeId} {cs ds : List Value} (h : Mem F w0 w L) (p : Pick L (cellsR a t cs) L1) (q : Pick L1 (cellsR b u ds) L2) : b ≠ a := by
 obtain ⟨_, G, s, _⟩ := h.pick p; obtain ⟨A, B, h1, h2, h3, _⟩ := s; obtain ⟨C, D, h4, _, _, h5⟩ := q.sep h2; intro e; exact h3 b ((h1.1 b).2 e) ((h5 b).2 (.inl ((h4.1 b).2 rfl)))
section
section
variable {P : Program} {w : World}
theorem part_agg {e : TypeId} {k : TypeDesc} {n off : Nat} {cs : List Value} (hu : P.underlying e = some k) (hk : (match k with | .struct _ | .array _ _ => true | _ => false) = true) (hn : P.cellsOf e = n) (W : World) :
 (part e cs.toArray off).run P W = .ok (.agg ((cs.drop off).take n).toArray) W := by
 obtain ⟨i, hi⟩ := info_of_underlying hu
 have hl : cs.toArray.extract off (off + n) = ((cs.drop off).take n).toArray := by
  apply Array.ext'
  rw [Array.toList_extract]; simp [List.extract]
 cases k <;> simp_all [part, isAgg, run_underlying hu, run_sizeOf W hi]
theorem eql_of {t : TypeId} {xs ys : Array Value} {b : Bool} (h : (Op.equalIn 10000 t (.agg xs) (.agg ys)).run P w = .ok b w) : (binOp .eql t (.agg xs) (.agg ys)).run P w = .ok (.bool b) w := by
 rw [run_eql_struct, h]; rfl
theorem neq_of {t : TypeId} {xs ys : Array Value} {b : Bool} (h : (Op.equalIn 10000 t (.agg xs) (.agg ys)).run P w = .ok b w) : (binOp .neq t (.agg xs) (.agg ys)).run P w = .ok (.bool (!b)) w := by
 rw [run_neq_struct, h]; rfl
end
end
theorem Bytes.at {w : World} {A : Nat → Prop} {l : List UInt8} {a : Option Addr} {c : Nat} (h : Bytes w A (.slice a l.length c) l) (k : Nat) (hk : k < l.length) :
 ∃ g o, a = some ⟨g, o, none⟩ ∧ A g ∧ g < w.heap.size ∧ w.cell? ⟨g, o + k, none⟩ = some (.int .u8 (l[k].toNat : Int)) := by
 rcases h with ⟨a', h1, h2⟩ | ⟨b, o, c', h1, h2, h3, h4⟩
 · subst h2; simp at hk
 · cases h1
   have := h4 k hk; unfold ByteAt at this; rw [Nat.mul_one] at this; exact ⟨b, o, rfl, h3, World.block_lt_of_cell? _ _ this, this⟩
theorem Upd.mono {F G : Nat → Prop} {w0 w : World} {r : Res} (h : Upd F w0 w r) (hs : ∀ k, F k → G k) : Upd G w0 w r :=
 let ⟨F', h1, h2, h3⟩ := h
 ⟨F', h1, h2.mono fun k _ => hs k, fun k hk => (h3 k hk).imp (hs k) id⟩
theorem times_any (w : World) (b n : Nat) (hn : n < 4294967296) (hb : Box w b 348 [wV n]) :
 Calls Tryz.prog 305 #[.pointer (some ⟨b, 0, none⟩)] w fun e w' => e = .returned (.tuple #[]) ∧ w' = w.setCell ⟨b, 0, none⟩ (wV (tmN n)) := by
 have HB := Hd hb; have HN := Hd hn; have hand := and1_u32 hn; clear hb hn; unfold wV at HB; rcases Nat.mod_two_eq_zero_or_one n with h2 | h2
 · have hx : bits .xor .u32 ((n : Int) / 2) 0 = ((n / 2 : Nat) : Int) := by
    have := xor_u32 (a := n / 2) (b := 0) (by have := HN.out; omega) (by decide); rw [Nat.xor_zero] at this; exact this
   have ht : tmN n = n / 2 := by unfold tmN; rw [if_neg (by omega)]
   have HT := Hd ht; rw [h2] at hand; rw [← ht] at hx; clear h2 ht; go_enter Tryz.func305, Tryz.ntmps305
   obtain ⟨cHB, zHB⟩ := HB.out.reads; have lHB := HB.out.lt; go_wp2_with fail; go_end0
   refine ⟨rfl, ?_⟩; unfold wV; rfl
 · have hx : bits .xor .u32 ((n : Int) / 2) 3988292384 = ((n / 2 ^^^ polyN : Nat) : Int) := xor_u32 (a := n / 2) (b := polyN) (by have := HN.out; omega) (by decide)
   have ht : tmN n = n / 2 ^^^ polyN := by unfold tmN; rw [if_pos h2]
   have HT := Hd ht; rw [h2] at hand; rw [← ht] at hx; clear h2 ht; go_enter Tryz.func305, Tryz.ntmps305
   obtain ⟨cHB, zHB⟩ := HB.out.reads; have lHB := HB.out.lt; go_wp2_with fail; go_end0
   refine ⟨rfl, ?_⟩; unfold wV; rfl
theorem take1_any (w : World) (k b n : Nat) (c : UInt8) (hn : n < 4294967296) (hk : Box w k 350 [.pointer (some ⟨b, 0, none⟩)]) (hb : Box w b 348 [wV n]) :
 Calls Tryz.prog 303 #[.int .u8 (c.toNat : Int), .pointer (some ⟨k, 0, none⟩)] w fun e w' => e = .returned (.tuple #[]) ∧ w' = w.setCell ⟨b, 0, none⟩ (wV (n ^^^ c.toNat)) := by
 have HB := Hd hb; have HK := Hd hk; have hc := c.toNat_lt; have hx := xor_u32 (a := n) (b := c.toNat) hn (by omega); have HX := Hd hx; have hw : IntKind.u32.wrap (c.toNat : Int) = (c.toNat : Int) := by simp [IntKind.wrap, IntKind.bits, IntKind.signed]; omega
 clear hb hk hn; unfold wV at HB; go_enter Tryz.func303, Tryz.ntmps303
 obtain ⟨cHB, zHB⟩ := HB.out.reads; have lHB := HB.out.lt; obtain ⟨cHK, zHK⟩ := HK.out.reads; have lHK := HK.out.lt; go_wp2_with fail; go_end0
 refine ⟨rfl, ?_⟩; unfold wV; rfl
theorem take2_any (w : World) (k b n : Nat) (c : Value) (hn : n < 4294967296) (hk : Box w k 350 [.pointer (some ⟨b, 0, none⟩)]) (hb : Box w b 348 [wV n]) (hkb : k ≠ b) :
 Calls Tryz.prog 304 #[c, .pointer (some ⟨k, 0, none⟩)] w fun e w' => e = .returned (.tuple #[]) ∧ Upd (OneB b) w w' (cellsR b 348 [wV (tmK 8 n)]) := by
 have HM := Hd (Mem.start (F := OneB b) (r := cellsR b 348 [wV n]) ⟨fun _ => Iff.rfl, hb⟩); have HK := Hd hk; have HN := Hd hn; have HKB := Hd hkb; clear hb hk hn hkb; go_enter Tryz.func304, Tryz.ntmps304
 go_wp2_with fail; go_loopw [3] (fun i wr => ∃ j : Nat, j ≤ 8 ∧ i = .int .i64 j ∧ Hid (Mem (OneB b) w wr [cellsR b 348 [wV (tmK j n)]])) (fun i _ => 8 - (intOf i).toNat)
 case atStart => exact ⟨0, Nat.zero_le _, rfl, HM⟩
 case round =>
  clear HM; obtain ⟨j, hj, rfl, HM⟩ := hrel; by_cases hlt : j < 8
  · have g1 : (j : Int) < 8 := by omega
    have hk := HK.out.keeps HM.out.keepsTo HKB.out; have HK1 := Hd hk; clear hk; obtain ⟨cHK1, zHK1⟩ := HK1.out.reads; have lHK1 := HK1.out.lt; go_wp2_with fail; clear cHK1 zHK1 lHK1; obtain ⟨Ahb, hb⟩ := HM.out.get (r := cellsR b 348 [wV (tmK j n)]) pk; refine (times_any _ b _ (tmK_lt HN.out j) hb.2).mono ?_; rintro e w' ⟨rfl, rfl⟩; clear hb; go_wp2_with fail; go_roundw
    case rel => exact ⟨j + 1, by omega, by go_num, Hd HM.out.to⟩
    case measure => simp [intOf]; omega
  · obtain rfl : j = 8 := by omega
    go_wp2_with fail; go_end0
    exact ⟨rfl, HM.out.upd⟩
theorem take_any {A : Nat → Prop} (w : World) (b n : Nat) (v : Value) (l : List UInt8) (hl : l.length ≤ 70368744177664) (hn : n < 4294967296) (hb : Box w b 348 [wV n]) (h : Bytes w A v l) (hA : ¬ A b) :
 Calls Tryz.prog 301 #[.pointer (some ⟨b, 0, none⟩), v] w fun e w' => e = .returned (.tuple #[]) ∧ Upd (OneB b) w w' (cellsR b 348 [wV (crcL n l)]) := by
 obtain ⟨a, c, rfl⟩ := h.len; have HM := Hd (Mem.start (F := OneB b) (r := cellsR b 348 [wV n]) ⟨fun _ => Iff.rfl, hb⟩); have HB := Hd h; have HN := Hd hn; have HA := Hd (show ∀ k, A k → ¬ OneB b k from fun k hk e => hA (by rw [← show k = b from e]; exact hk)); have HBL := Hd hb.lt; clear h hb hn hA; go_enter Tryz.func301, Tryz.ntmps301
 go_wp2_with fail; refine nxt HM fun w1 M => ?_
 replace HM := M; clear M; obtain ⟨k, hk⟩ : ∃ k, w.heap.size = k := ⟨_, rfl⟩; obtain ⟨q, hq⟩ : ∃ q, k + 1 = q := ⟨_, rfl⟩; have HKQ := Hd (show k ≠ b ∧ k ≠ q from ⟨by have := HBL.out; omega, by omega⟩); rw [hk, hq]; rw [hk, hq] at HM; clear hk hq; go_loopw [14] (fun i wr => ∃ j : Nat, j ≤ l.length ∧ i = .int .i64 j ∧ Hid (Mem (OneB b) w wr [cellsR q 351 [.func (.func 303) #[] #[.pointer (some ⟨k, 0, none⟩)], .func (.func 304) #[] #[.pointer (some ⟨k, 0, none⟩)]], cellsR k 350 [.pointer (some ⟨b, 0, none⟩)], cellsR b 348 [wV (crcL n (l.take j))]])) (fun i _ => l.length - (intOf i).toNat)
 case atStart => exact ⟨0, Nat.zero_le _, rfl, HM⟩
 case round =>
  clear HM; obtain ⟨j, hj, rfl, HM⟩ := hrel; by_cases hlt : j < l.length
  · have g1 : (j : Int) < l.length := by omega
    have g2 : ¬ (j : Int) < 0 := by omega
    obtain ⟨g, o, rfl, -, hg, hc⟩ := (HB.out.keeps HM.out.keepsTo HA.out).at j hlt; have HS := Hd (show crcL n (l.take (j + 1)) = tmK 8 (crcL n (l.take j) ^^^ l[j].toNat) from crcL_take hlt); obtain ⟨x, hx⟩ : ∃ x, l[j] = x := ⟨_, rfl⟩; rw [hx] at hc HS; clear hx; obtain ⟨m, hm⟩ : ∃ m, crcL n (l.take j) = m := ⟨_, rfl⟩; have HL := Hd (show m < 4294967296 by rw [← hm]; exact crcL_lt HN.out _); rw [hm] at HM HS; clear hm; have fM := HM.out.fa; go_wp2_with fail; all_goals clear fM
    refine wp_loop_rounds 3 ?_; rw [rounds_succ]; clear hc; have fM := HM.out.fa; go_wp2_with fail; all_goals clear fM
    refine nxt HM fun w2 M => ?_
    replace HM := M; clear M; obtain ⟨Ahb, hb⟩ := HM.out.get (r := cellsR b 348 [wV m]) pk; obtain ⟨Ahk, hk⟩ := HM.out.get (r := cellsR k 350 [.pointer (some ⟨b, 0, none⟩)]) pk; refine (take1_any w2 k b m x HL.out hk.2 hb.2).mono ?_; rintro e w' ⟨rfl, rfl⟩; clear hb hk; go_wp2_with fail; refine nxt HM fun w3 M => ?_
    replace HM := M; clear M; rw [rounds_succ]; have fM := HM.out.fa; go_wp2_with fail; all_goals clear fM
    refine nxt HM fun w4 M => ?_
    replace HM := M; clear M; obtain ⟨Ahk, hk⟩ := HM.out.get (r := cellsR k 350 [.pointer (some ⟨b, 0, none⟩)]) pk; obtain ⟨B, hB, hS⟩ := (HM.out.pick (r := cellsR b 348 [wV (m ^^^ x.toNat)]) pk).step; refine (take2_any w4 k b (m ^^^ x.toNat) _ (Nat.xor_lt_two_pow (n := 32) HL.out (by have := x.toNat_lt; omega)) hk.2 hB.2 HKQ.out.1).mono ?_; rintro e w5 ⟨rfl, hU⟩; replace HM := Hd (hS _ _ (hU.mono fun k h => (hB.1 k).2 h)); clear hU hS hk hB; rw [← HS.out] at HM; go_wp2_with fail; rw [rounds_succ]; go_wp2_with fail; go_roundw
    case rel => exact ⟨j + 1, by omega, by go_num, Hd (Mem.sub HM.out sbI)⟩
    case measure => simp [intOf]; omega
  · obtain rfl : j = l.length := by omega
    rw [List.take_length] at HM; go_wp2_with fail; go_end0
    exact ⟨rfl, (HM.out.pick (r := cellsR b 348 [wV (crcL n l)]) pk).upd⟩
theorem more_any {A : Nat → Prop} (w : World) (s : Nat) (v : Value) (l : List UInt8) (hl : l.length ≤ 70368744177664) (hs : s < 4294967296) (h : Bytes w A v l) (hA : ∀ k, A k → k < w.heap.size) :
 Calls Tryz.prog 291 #[wV s, v] w fun e w' => e = .returned (wV (4294967295 - crcL (4294967295 - s) l)) ∧ Ext w w' := by
 have HM := Hd (Mem.start0 w); have HB := Hd h; have HA := Hd hA; have hx := not_u32 hs; have HLL := Hd hl; have hn : 4294967295 - s < 4294967296 := by omega
 have HN := Hd hn; clear h hs hA hl; unfold wV; go_enter Tryz.func291, Tryz.ntmps291
 go_wp2_with fail; obtain ⟨b, hb⟩ : ∃ b, w.heap.size = b := ⟨_, rfl⟩; have HBE := Hd hb; rw [hb]; clear hb hx; refine nxt HM fun w1 M => ?_
 replace HM := M; clear M; rw [HBE.out] at HM; obtain ⟨B, hB, hS⟩ := HM.out.step; refine (take_any w1 b (4294967295 - s) v l HLL.out HN.out hB.2 (HB.out.ext HM.out.extTo) (fun k => by have := HA.out _ k; have := HBE.out; omega)).mono ?_; rintro e w2 ⟨rfl, hU⟩; replace HM := Hd (hS _ _ (hU.mono fun k h => (hB.1 k).2 h)); clear hU hS hB; obtain ⟨m, hm⟩ : ∃ m, crcL (4294967295 - s) l = m := ⟨_, rfl⟩; have hl : m < 4294967296 := by rw [← hm]; exact crcL_lt HN.out _
 have hy := not_u32 hl; rw [hm] at HM; have HQ := Hd hm; unfold wV at HM; clear hm hl; have fM := HM.out.fa; go_wp2_with fail; all_goals clear fM
 go_ret; rw [HQ.out]; exact ⟨rfl, HM.out.extTo⟩
theorem sum_any {A : Nat → Prop} (w : World) (q : Nat) (v : Value) (l : List UInt8) (hl : l.length ≤ 70368744177664) (hq : Box w q 27 [v]) (h : Bytes w A v l) (hA : ∀ k, A k → k < w.heap.size) :
 Calls Tryz.prog 274 #[.slice (some ⟨q, 0, none⟩) 1 1] w fun e w' => e = .returned (wV (crcS l)) ∧ Ext w w' := by
 have HB := Hd h; have HA := Hd hA; have HQ := Hd hq; have HLL := Hd hl; clear h hA hq hl; obtain ⟨a, c, rfl⟩ := HB.out.len; go_enter Tryz.func274, Tryz.ntmps274
 obtain ⟨cHQ, zHQ⟩ := HQ.out.reads; have lHQ := HQ.out.lt; go_wp2_with fail; refine wp_loop_rounds 2 ?_; rw [rounds_succ]; go_wp2_with fail; clear cHQ zHQ lHQ; refine (more_any w 0 _ l HLL.out (by decide) HB.out HA.out).mono ?_; rintro e w1 ⟨rfl, hE⟩; have HE := Hd hE; clear hE; go_wp2_with fail; rw [rounds_succ]; go_wp2_with fail; go_ret; exact ⟨rfl, HE.out⟩
theorem low4_cells (n : Nat) : (low4 n).map byV = [.int .u8 ((n : Int) % 256), .int .u8 ((n : Int) / 256 % 256), .int .u8 ((n : Int) / 65536 % 256), .int .u8 ((n : Int) / 16777216 % 256)] := by
 have h : ∀ m : Nat, byV (UInt8.ofNat m) = .int .u8 ((m : Int) % 256) := fun m => by
  unfold byV; rw [UInt8.toNat_ofNat']; rfl
 simp only [low4, List.map_cons, List.map_nil, h, Int.natCast_ediv]; rfl
theorem low_any (w : World) (n : Nat) (hn : n < 4294967296) :
 Calls Tryz.prog 273 #[wV n] w fun e w' => e = .returned (.slice (some ⟨w.heap.size, 0, none⟩) 4 4) ∧ Box w' w.heap.size 5 ((low4 n).map byV) ∧ Ext w w' := by
 obtain ⟨w1, hr, hb, hE, hs⟩ := make_bytes w 4 (by decide) 4 rfl; have HM := Hd ((Mem.start0 w).new (r := cellsR w.heap.size 5 ((List.replicate 4 (0 : UInt8)).map byV)) (G := fun k => k = w.heap.size) hE ⟨fun _ => Iff.rfl, hb⟩ (fun k hk => by omega)); have HN := Hd hn; clear hb hE hs hn; unfold wV; simp only [List.replicate, List.map_cons, List.map_nil, byV] at HM; go_enter Tryz.func273, Tryz.ntmps273
 go_wp2_with fail; obtain ⟨b, hb⟩ : ∃ b, w.heap.size = b := ⟨_, rfl⟩; rw [hb]; rw [hb] at HM; have HBE := Hd hb; clear hb hr; refine wp_loop_rounds 5 ?_; rw [rounds_succ]; have fM := HM.out.fa; go_wp2_with fail; all_goals clear fM
 refine nxt HM fun w2 M => ?_
 replace HM := M; clear M; rw [rounds_succ]; have fM := HM.out.fa; go_wp2_with fail; all_goals clear fM
 refine nxt HM fun w2 M => ?_
 replace HM := M; clear M; rw [rounds_succ]; have fM := HM.out.fa; go_wp2_with fail; all_goals clear fM
 refine nxt HM fun w2 M => ?_
 replace HM := M; clear M; rw [rounds_succ]; have fM := HM.out.fa; go_wp2_with fail; all_goals clear fM
 refine nxt HM fun w2 M => ?_
 replace HM := M; clear M; rw [rounds_succ]; have fM := HM.out.fa; go_wp2_with fail; all_goals clear fM
 go_ret; rw [HBE.out]; refine ⟨rfl, ?_, HM.out.extTo⟩; rw [low4_cells]; obtain ⟨Ahb, hb⟩ := HM.out.get (r := cellsR b 5 [.int .u8 ((n : Int) % 256), .int .u8 ((n : Int) / 256 % 256), .int .u8 ((n : Int) / 65536 % 256), .int .u8 ((n : Int) / 16777216 % 256)]) pk; exact hb.2
theorem size_u8 (w : World) : (sizeOf 5).run Tryz.prog w = .ok 1 w := by kernel_rfl
theorem elem_u8 : Tryz.prog.elem 27 = 5 := by kernel_rfl
theorem Bytes.part {w : World} {A : Nat → Prop} {a : Option Addr} {c : Nat} {l : List UInt8} (h : Bytes w A (.slice a l.length c) l) (i j : Nat) (hij : i ≤ j) (hj : j ≤ l.length) :
 Bytes w A (sliced a i j c 1) ((l.take j).drop i) := by
 have hl : ((l.take j).drop i).length = j - i := by rw [List.length_drop, List.length_take, Nat.min_eq_left hj]
 unfold sliced; rcases h with ⟨a', h1, h2⟩ | ⟨b, o, c', h1, h2, h3, h4⟩
 · subst h2
   obtain rfl : j = 0 := by simpa using hj
   obtain rfl : i = 0 := by omega
   simp only [List.length_nil, Value.slice.injEq] at h1; obtain ⟨-, -, rfl⟩ := h1; exact .inl ⟨a, by rw [if_pos rfl], by simp⟩
 · cases h1
   by_cases hc : c = i
   · rw [if_pos hc]
     have hji : j = i := by omega
     have he : (l.take j).drop i = [] := List.eq_nil_of_length_eq_zero (by omega); rw [he, hji, hc, Nat.sub_self]; exact .inl ⟨_, rfl, rfl⟩
   · rw [if_neg hc]
     refine .inr ⟨b, o + i, c - i, ?_, by omega, h3, fun k hk => ?_⟩
     · rw [hl, Option.map_some, Addr.add_lit, Nat.mul_one]
     · rw [hl] at hk
       rw [List.getElem_drop, List.getElem_take, show o + i + k * 1 = o + (i + k) * 1 by omega]; exact h4 (i + k) (by omega)
theorem part_len {a : Option Addr} {i j c s : Nat} : ∃ a' c', sliced a i j c s = .slice a' (j - i) c' := ⟨_, _, rfl⟩
theorem slice_lh (W : World) (a : Option Addr) (n c i j : Nat) (hij : i ≤ j) (hj : j ≤ c) : (Instr.sliceAt 27 (.slice a n c) (some (.int .i64 (i : Int))) (some (.int .i64 (j : Int))) none).run Tryz.prog W = .ok (sliced a i j c 1) W := by
 have hu : Tryz.prog.underlying 27 = some (.slice (Tryz.prog.elem 27)) := by rw [elem_u8]; exact Tryz.underlying27
 rw [run_sliceAt_slice _ _ _ _ _ _ hu, run_slice_lh _ _ _ _ _ hu _ _ _ _ (by omega) (by omega) (by omega), elem_u8, size_u8]; simp [Result.andThen]
theorem slice_h (W : World) (a : Option Addr) (n c j : Nat) (hj : j ≤ c) : (Instr.sliceAt 27 (.slice a n c) none (some (.int .i64 (j : Int))) none).run Tryz.prog W = .ok (sliced a 0 j c 1) W := by
 have hu : Tryz.prog.underlying 27 = some (.slice (Tryz.prog.elem 27)) := by rw [elem_u8]; exact Tryz.underlying27
 rw [run_sliceAt_slice _ _ _ _ _ _ hu, run_slice_h _ _ _ _ _ hu _ _ (by omega) (by omega), elem_u8, size_u8]; simp [Result.andThen]
theorem slice_l (W : World) (a : Option Addr) (n c i : Nat) (hi : i ≤ n) : (Instr.sliceAt 27 (.slice a n c) (some (.int .i64 (i : Int))) none none).run Tryz.prog W = .ok (sliced a i n c 1) W := by
 have hu : Tryz.prog.underlying 27 = some (.slice (Tryz.prog.elem 27)) := by rw [elem_u8]; exact Tryz.underlying27
 rw [run_sliceAt_slice _ _ _ _ _ _ hu, run_slice_l _ _ _ _ _ hu _ _ (by omega) (by omega), elem_u8, size_u8]; simp [Result.andThen]
theorem eq_sliceU (w : World) (p : Addr) (n c : Nat) : (binOp .eql 27 (.slice (some p) n c) (.slice none 0 0)).run Tryz.prog w = .ok (.bool false) w := by kernel_rfl
theorem eq_noneU (w : World) (c : Nat) : (binOp .eql 27 (.slice none 0 c) (.slice none 0 0)).run Tryz.prog w = .ok (.bool true) w := by kernel_rfl
def New (w w' : World) : Nat → Prop := fun k => w.heap.size ≤ k ∧ k < w'.heap.size
theorem clone_bytes {A : Nat → Prop} (w : World) (v : Value) (l : List UInt8) (h : Bytes w A v l) (hl : l.length ≤ 70368744177664) :
 Calls Tryz.prog 70 #[v] w fun e w' => ∃ v', e = .returned v' ∧ Win w' w.heap.size 1 v' l.length (l.map byV) ∧ Ext w w' := by
 obtain ⟨a, c, rfl⟩ := h.len; cases a with
 | none =>
   have h0 : l = [] := by
    rcases h with ⟨a, h1, h2⟩ | ⟨g, o, cap, h1, _⟩
    · exact h2
    · cases h1
   subst h0; clear h; have hq := eq_noneU w c; simp only [List.length_nil]; go_enter Tryz.func70, Tryz.ntmps70
   go_wp2_with fail; go_ret; exact ⟨_, rfl, Win.nil _ _ _, Keeps.refl _ _⟩
 | some p =>
   have e0 : Ext w (w.alloc (Obj.cells #[] 5)) := (Keeps.refl _ _).alloc _; obtain ⟨v1, w1, hr1, hwin1, hk1, ho1⟩ := append_bytes (w.alloc (Obj.cells #[] 5)) w.heap.size (.slice (some ⟨w.heap.size, 0, none⟩) 0 0) [] 27 (Win.empty (Nat.le_refl _) (by simp)) _ l (h.ext e0) (by simp; omega) (by simp); simp only [List.nil_append] at hwin1; have e1 : Ext w w1 := e0.then hk1 (fun i hi h2 => by have := own_eq h2; omega); have HW := Hd hwin1; have HE := Hd e1; have hq := eq_sliceU w p l.length c; clear h e0 hwin1 hk1 ho1 e1; go_enter Tryz.func70, Tryz.ntmps70
   go_wp2_with (at_builtin; refine wpList_append_ran rfl _ _ hr1 rfl rfl rfl ?_); go_ret; exact ⟨_, rfl, HW.out, HE.out⟩
theorem Win.bytes {w : World} {base n : Nat} {v : Value} {l : List UInt8} (h : Win w base 1 v n (l.map byV)) : Bytes w (fun b => base ≤ b ∧ b < w.heap.size) v l := Bytes.of_win h
theorem equal_bytes {A B : Nat → Prop} (w : World) (v u : Value) (l m : List UInt8) (h : Bytes w A v l) (h' : Bytes w B u m) (hl : l.length ≤ 70368744177664) :
 Calls Tryz.prog 112 #[v, u] w fun e w' => e = .returned (.bool (decide (l = m))) ∧ Ext w w' := by
 obtain ⟨a, c, rfl⟩ := h.len; obtain ⟨a', c', rfl⟩ := h'.len; have HM := Hd (Mem.start0 w); have H := Hd h; have H' := Hd h'; have HLL := Hd hl; clear h h' hl; by_cases hn : l.length = m.length
 case neg =>
  have hn1 : ((l.length : Int) != (m.length : Int)) = true := by simpa using (fun e => hn (by omega))
  have hd : decide (l = m) = false := decide_eq_false fun e => hn (by rw [e])
  rw [hd]; clear hn hd; go_enter Tryz.func112, Tryz.ntmps112
  go_wp2_with fail; go_ret; exact ⟨rfl, HM.out.extTo⟩
 rw [← hn]; have HN := Hd hn; rw [← hn] at H'; clear hn; go_enter Tryz.func112, Tryz.ntmps112
 go_wp2_with fail; go_loopw [13] (fun i wr => ∃ j : Nat, j ≤ l.length ∧ i = .int .i64 j ∧ Hid (l.take j = m.take j) ∧ Hid (Mem NoB w wr [])) (fun i _ => l.length - (intOf i).toNat)
 case atStart => exact ⟨0, Nat.zero_le _, rfl, Hd (by simp), HM⟩
 case round =>
  clear HM; obtain ⟨j, hj, rfl, HT, HM⟩ := hrel; by_cases hlt : j < l.length
  · have hlt' : j < m.length := by rw [← HN.out]; exact hlt
    have g1 : (j : Int) < l.length := by omega
    have g2 : ¬ (j : Int) < 0 := by omega
    have hll := HLL.out; obtain ⟨g, o, rfl, -, hg, hc⟩ := (H.out.ext HM.out.extTo).at j hlt; have h8 := H'.out.ext HM.out.extTo; rw [HN.out] at h8; obtain ⟨g', o', rfl, -, hg', hc'⟩ := h8.at j hlt'; have HS := Hd (show l.take (j + 1) = l.take j ++ [l[j]] from List.take_succ_eq_append_getElem hlt); have HS' := Hd (show m.take (j + 1) = m.take j ++ [m[j]] from List.take_succ_eq_append_getElem hlt'); have HG := Hd (show l[j]? = some l[j] from List.getElem?_eq_getElem hlt); have HG' := Hd (show m[j]? = some m[j] from List.getElem?_eq_getElem hlt'); obtain ⟨x, hx⟩ : ∃ x, l[j] = x := ⟨_, rfl⟩; obtain ⟨y, hy⟩ : ∃ y, m[j] = y := ⟨_, rfl⟩; rw [hx] at hc HS HG; rw [hy] at hc' HS' HG'; clear hx hy h8; go_wp2_with fail; by_cases hxy : x = y
    · subst hxy
      have hE0 : Keeps NoB wr wr.drew := (Keeps.refl _ _).drew; refine rgE [(0, 0), (0, 1), (0, 2), (3, 3), (0, 4), (0, 5), (0, 6), (3, 7), (0, 8)] [] [] [] ?_; simp only [planL, nL]; iterate 9 (first | (refine pM _ rfl rfl ?_; simp only [nP, nE]) | (refine pR (by rfl) (fun W => by go_simp <;> with_reducible rfl) ?_; simp only [nP]) | (refine pX (by rfl) (by go_simp <;> with_reducible rfl) ?_; simp only [nP]))
      refine plan_nil ?_; simp only [tailL, List.filterMap_nil]; go_wp2_with fail; go_roundw
      case rel => exact ⟨j + 1, by omega, by go_num, Hd (by rw [HS.out, HS'.out, HT.out]), Hd HM.out.to⟩
      case measure => simp [intOf]; omega
    · have hne : ((x.toNat : Int) != (y.toNat : Int)) = true := by
       simpa using (fun e => hxy (UInt8.toNat_inj.1 (by omega)))
      have hE0 : Keeps NoB wr wr.drew := (Keeps.refl _ _).drew; refine rgE [(0, 0), (0, 1), (0, 2), (3, 3), (0, 4), (0, 5), (0, 6), (3, 7), (0, 8)] [] [] [] ?_; simp only [planL, nL]; iterate 9 (first | (refine pM _ rfl rfl ?_; simp only [nP, nE]) | (refine pR (by rfl) (fun W => by go_simp <;> with_reducible rfl) ?_; simp only [nP]) | (refine pX (by rfl) (by go_simp <;> with_reducible rfl) ?_; simp only [nP]))
      refine plan_nil ?_; simp only [tailL, List.filterMap_nil]; go_wp2_with fail; go_ret
      have hd : decide (l = m) = false := decide_eq_false fun e => by
       have h1 := HG.out; rw [e, HG'.out] at h1; exact hxy (Option.some.inj h1).symm
      rw [hd]; exact ⟨rfl, HM.out.to.extTo⟩
  · obtain rfl : j = l.length := by omega
    go_wp2_with fail; go_ret
    have hd : decide (l = m) = true := decide_eq_true (by
     have h1 := HT.out; rw [List.take_length, HN.out, List.take_length] at h1; exact h1)
    rw [hd]; exact ⟨rfl, HM.out.extTo⟩
section
def bytR (v : Value) (l : List UInt8) : Res := winR 1 v l.length (l.map byV)
section
variable {F : Nat → Prop} {w0 w w' W : World} {L : List Res} {v : Value} {l : List UInt8} {A : Nat → Prop}
theorem bytR.bytes (h : (bytR v l).p A w) : Bytes w A v l := by
 obtain ⟨h1, h2⟩ := h; obtain ⟨h3, h4 | ⟨g, o, cap, rfl, h5, h6, h7, h8, h9, h10⟩⟩ := h2
 · exact .inl ⟨none, h4.1, List.eq_nil_of_length_eq_zero h4.2⟩
 · refine .inr ⟨g, o, cap, rfl, h6, (h1 g).2 rfl, fun i hi => ?_⟩
   unfold ByteAt; rw [Nat.mul_one]; exact h10 i _ (by rw [List.getElem?_map, List.getElem?_eq_getElem hi]; rfl)
theorem bytR.len (h : (bytR v l).p A w) : ∃ a c, v = .slice a l.length c := h.2.len
theorem bytR.lt (h : (bytR v l).p A w) : ∀ k, A k → k < w.heap.size := Res.lt _ h
theorem Mem.byt (h : Mem F w0 w (bytR v l :: L)) : ∃ A, Bytes w A v l ∧ (∀ k, A k → k < w.heap.size) := by
 obtain ⟨A, hA⟩ := h.get (L' := L) .here; exact ⟨A, bytR.bytes hA, bytR.lt hA⟩
theorem Mem.bytNil (h : Mem F w0 w L) : Mem F w0 w (bytR (.slice none 0 0) [] :: L) :=
 h.new (r := bytR (.slice none 0 0) []) (G := fun _ => False) (Keeps.refl _ _) ⟨fun k => ⟨fun h => h.elim, fun h => by cases h⟩, Win.nil w 0 1⟩ (fun k h => h.elim)
theorem Mem.bytNew (h : Mem F w0 W L) (e : Ext W w) (hw : Win w W.heap.size 1 v l.length (l.map byV)) : Mem F w0 w (bytR v l :: L) :=
 h.new (r := bytR v l) (G := Own v) e ⟨fun k => Iff.rfl, Win.mono hw (Nat.zero_le _)⟩ fun k hk => (Win.block hw k hk).1
theorem Mem.bytEmpty {g : Nat} {t : TypeId} (h : Mem F w0 w (cellsR g t [] :: L)) : Mem F w0 w (bytR (.slice (some ⟨g, 0, none⟩) 0 0) [] :: L) :=
 h.turn fun A hA => ⟨fun k => ⟨fun hk => by rw [(hA.1 k).1 hk]; rfl, fun hk => (hA.1 k).2 (Option.some.inj (show some g = some k from hk)).symm⟩, Win.empty (Nat.zero_le _) hA.2.lt⟩
theorem Mem.bytMade {g : Nat} (h : Mem F w0 w (cellsR g 5 (l.map byV) :: L)) (hl : l.length ≤ 70368744177664) : Mem F w0 w (bytR (.slice (some ⟨g, 0, none⟩) l.length l.length) l :: L) :=
 h.turn fun A hA => ⟨fun k => ⟨fun hk => by rw [(hA.1 k).1 hk]; rfl, fun hk => (hA.1 k).2 (Option.some.inj (show some g = some k from hk)).symm⟩, by
  have hr := hA.2.reads; refine ⟨by simp, .inr ⟨g, 0, l.length, rfl, Nat.zero_le _, Nat.le_refl _, by simp [maxLen]; omega, hA.2.lt, fun j hj => ?_, fun j u hu => ?_⟩⟩
  · rw [Nat.zero_add]
    exact ⟨by rw [hr.1, List.getElem?_eq_getElem (by simpa using hj)]; rfl, hr.2 j⟩
  · rw [Nat.zero_add, hr.1]; exact hu⟩
theorem Mem.bytAdd (ty : TypeId) (h : Mem F w0 w (bytR v l :: L)) (x : Value) (m : List UInt8) (hx : Bytes w A x m) (hl : l.length + m.length ≤ 70368744177664) :
 ∃ v' w', (Builtin.append_ #[27, 27] ty #[v, x]).run Tryz.prog w = .ok v' w' ∧ Mem F w0 w' (bytR v' (l ++ m) :: L) := by
 obtain ⟨i0, hi, hz0, hz1, hz2⟩ := info_parts infoU8
 obtain ⟨v', w', h1, h2⟩ := Mem.append (P := Tryz.prog) 27 27 ty 5 i0 _ 1 1 Tryz.underlying27 hi hz0 hz1 hz2 rfl h
  x m.length (m.map byV) (hx.src.toSrc Tryz.underlying27 (by simp) (byV_one m)) (by simp [maxLen]; omega) (by omega)
 exact ⟨v', w', h1, by unfold bytR; rw [List.length_append, List.map_append]; exact h2⟩
theorem byteCells_bs (m : List UInt8) : byteCells (bs m) = m.map byV := by
 unfold byteCells; rw [bs_data]; rfl
theorem Mem.bytAddS (ty : TypeId) (h : Mem F w0 w (bytR v l :: L)) (m : List UInt8) (hl : l.length + m.length ≤ 70368744177664) :
 ∃ v' w', (Builtin.append_ #[27, 9] ty #[v, .string (bs m)]).run Tryz.prog w = .ok v' w' ∧ Mem F w0 w' (bytR v' (l ++ m) :: L) := by
 obtain ⟨i0, hi, hz0, hz1, hz2⟩ := info_parts infoU8; have hs := Src.ofString (P := Tryz.prog) w Tryz.underlying9 (bs m); rw [byteCells_bs, bs_size] at hs
 obtain ⟨v', w', h1, h2⟩ := Mem.append (P := Tryz.prog) 27 9 ty 5 i0 _ 1 1 Tryz.underlying27 hi hz0 hz1 hz2 rfl h
  (.string (bs m)) m.length (m.map byV) hs (by simp [maxLen]; omega) (by omega)
 exact ⟨v', w', h1, by unfold bytR; rw [List.length_append, List.map_append]; exact h2⟩
theorem Upd.byt (h : Upd NoB w w' (bytR v l)) : Bytes w' (New w w') v l ∧ Ext w w' := by
 obtain ⟨F', h1, h2, h3⟩ := h; refine ⟨(bytR.bytes h1).mono fun k hk => ⟨?_, bytR.lt h1 k hk⟩, h2⟩; rcases h3 k hk with h | h
 · exact (noB _ h).elim
 · exact h
end
end
instance gl9 (J : Act → World → Prop) (a : Act) (w : World) : Gl (Met J a w) (fun w => Met J a w) w := ⟨id⟩
end Go.Proofs.YtoadjbgpfihoiaaGreatDoor
