/- What lies in memory as a list of things that lie apart ('Mem'): each deed turns one of them and leaves the others. No program is named here. -/
import Derived.Test.YthhdgjofagdjeaaDoorBase
import Derived.Test.YthhdgjofagdjeaaDoorWin
import Derived.Test.YthhdgjofagdjeaaDoorStopS
import Derived.Defers
set_option linter.unusedVariables false
set_option linter.unusedSimpArgs false
namespace Go.Proofs.YthhdgjofagdjeaaDoor
open Go.RowKit

/-- a thing in memory: F tells blocks among which it lies -/
structure Res where
  tag : Option (Nat × List Value)
  p : (Nat → Prop) → World → Prop
  keeps : ∀ {F S w w'}, p F w → Keeps S w w' → (∀ k, F k → ¬ S k) → p F w'
  lt : ∀ {F w}, p F w → ∀ k, F k → k < w.heap.size
  facts : ∀ {F w b cs}, tag = some (b, cs) → p F w → F b ∧ (∀ o, w.cell? ⟨b, o, none⟩ = cs[o]?) ∧ ∀ o, w.frozen? ⟨b, o, none⟩ = false

/-- a block known whole -/
def cellsR (b : Nat) (t : TypeId) (cs : List Value) : Res where
  tag := some (b, cs)
  p F w := (∀ k, F k ↔ k = b) ∧ Box w b t cs
  keeps h hk hs := ⟨h.1, h.2.keeps hk (hs b ((h.1 b).2 rfl))⟩
  lt h k hk := by rw [(h.1 k).1 hk]; exact h.2.lt
  facts e h := by cases e; exact ⟨(h.1 b).2 rfl, h.2.reads.1, h.2.reads.2⟩
/-- a slice that is owned -/
def winR (sz : Nat) (v : Value) (n : Nat) (cs : List Value) : Res where
  tag := none
  p F w := (∀ k, F k ↔ v.ownBlock = some k) ∧ Win w 0 sz v n cs
  keeps h hk hs := ⟨h.1, h.2.keeps hk fun g hg => hs g ((h.1 g).2 hg)⟩
  lt h k hk := (h.2.block k ((h.1 k).1 hk)).2
  facts e h := by cases e
/-- anything else -/
def anyR (p : (Nat → Prop) → World → Prop) (keeps : ∀ {F S w w'}, p F w → Keeps S w w' → (∀ k, F k → ¬ S k) → p F w') (lt : ∀ {F w}, p F w → ∀ k, F k → k < w.heap.size) : Res where
  tag := none
  p := p
  keeps := keeps
  lt := lt
  facts e h := by cases e

theorem cellsR_tag {b : Nat} {t : TypeId} {cs : List Value} : (cellsR b t cs).tag = some (b, cs) := rfl
theorem winR_tag {sz : Nat} {v : Value} {n : Nat} {cs : List Value} : (winR sz v n cs).tag = none := rfl

def SepL : List Res → (Nat → Prop) → World → Prop
  | [], F, w => ∀ k, ¬ F k
  | r :: L, F, w => ∃ A B, r.p A w ∧ SepL L B w ∧ (∀ k, A k → ¬ B k) ∧ ∀ k, F k ↔ A k ∨ B k

inductive Pick : List Res → Res → List Res → Prop
  | here {r L} : Pick (r :: L) r L
  | there {x r L L'} : Pick L r L' → Pick (x :: L) r (x :: L')

section
variable {F G S : Nat → Prop} {w w' : World} {L L' : List Res} {r r' : Res}
theorem SepL.keeps : ∀ {L : List Res} {F S : Nat → Prop} {w w' : World}, SepL L F w → Keeps S w w' → (∀ k, F k → ¬ S k) → SepL L F w'
  | [], _, _, _, _, h, _, _ => h
  | _ :: _, _, _, _, _, ⟨A, B, h1, h2, h3, h4⟩, hk, hs => ⟨A, B, Res.keeps _ h1 hk fun k hA => hs k ((h4 k).2 (.inl hA)), SepL.keeps h2 hk fun k hB => hs k ((h4 k).2 (.inr hB)), h3, h4⟩
theorem SepL.lt : ∀ {L : List Res} {F : Nat → Prop} {w : World}, SepL L F w → ∀ k, F k → k < w.heap.size
  | [], _, _, h, k, hF => (h k hF).elim
  | _ :: _, _, _, ⟨A, B, h1, h2, h3, h4⟩, k, hF => by
    rcases (h4 k).1 hF with h | h
    · exact Res.lt _ h1 k h
    · exact SepL.lt h2 k h
theorem SepL.congr : ∀ {L : List Res} {F G : Nat → Prop} {w : World}, SepL L F w → (∀ k, G k ↔ F k) → SepL L G w
  | [], _, _, _, h, e => fun k hk => h k ((e k).1 hk)
  | _ :: _, _, _, _, ⟨A, B, h1, h2, h3, h4⟩, e => ⟨A, B, h1, h2, h3, fun k => (e k).trans (h4 k)⟩
theorem SepL.swap {x : Res} (h : SepL (x :: r :: L) F w) : SepL (r :: x :: L) F w := by
  obtain ⟨A, B, h1, ⟨C, D, h2, h3, h4, h5⟩, h6, h7⟩ := h
  refine ⟨C, fun k => A k ∨ D k, h2, ⟨A, D, h1, h3, fun k hA hD => h6 k hA ((h5 k).2 (.inr hD)), fun k => Iff.rfl⟩, fun k hC hAD => ?_, fun k => ?_⟩
  · rcases hAD with h | h
    · exact h6 k h ((h5 k).2 (.inl hC))
    · exact h4 k hC h
  · rw [h7 k, h5 k]
    constructor
    · rintro (h | h | h)
      · exact .inr (.inl h)
      · exact .inl h
      · exact .inr (.inr h)
    · rintro (h | h | h)
      · exact .inr (.inl h)
      · exact .inl h
      · exact .inr (.inr h)
theorem Pick.sep : ∀ {L L' : List Res} {r : Res} {F : Nat → Prop}, Pick L r L' → SepL L F w → SepL (r :: L') F w
  | _, _, _, _, .here, h => h
  | _, _, _, _, .there p, ⟨A, B, h1, h2, h3, h4⟩ => SepL.swap ⟨A, B, h1, p.sep h2, h3, h4⟩
theorem SepL.append : ∀ {L1 L2 : List Res} {A B F : Nat → Prop}, SepL L1 A w → SepL L2 B w → (∀ k, A k → ¬ B k) → (∀ k, F k ↔ A k ∨ B k) → SepL (L1 ++ L2) F w
  | [], _, A, B, F, h1, h2, _, e => h2.congr fun k => by rw [e k]; exact ⟨fun h => h.resolve_left (h1 k), .inr⟩
  | _ :: _, _, A, B, F, ⟨C, D, c1, c2, c3, c4⟩, h2, h3, e => by
    refine ⟨C, fun k => D k ∨ B k, c1, SepL.append c2 h2 (fun k hD => h3 k ((c4 k).2 (.inr hD))) (fun k => Iff.rfl), fun k hC h => ?_, fun k => ?_⟩
    · rcases h with h | h
      · exact c3 k hC h
      · exact h3 k ((c4 k).2 (.inl hC)) h
    · rw [e k, c4 k, or_assoc]
theorem SepL.split : ∀ {L1 L2 : List Res} {F : Nat → Prop}, SepL (L1 ++ L2) F w → ∃ A B, SepL L1 A w ∧ SepL L2 B w ∧ (∀ k, A k → ¬ B k) ∧ ∀ k, F k ↔ A k ∨ B k
  | [], L2, F, h => ⟨fun _ => False, F, fun k h => h, h, fun k h _ => h, fun k => ⟨.inr, fun h => h.resolve_left id⟩⟩
  | x :: L1, L2, F, ⟨C, D, c1, c2, c3, c4⟩ => by
    obtain ⟨A, B, a1, a2, a3, a4⟩ := SepL.split c2
    refine ⟨fun k => C k ∨ A k, B, ⟨C, A, c1, a1, fun k hC hA => c3 k hC ((a4 k).2 (.inl hA)), fun k => Iff.rfl⟩, a2, fun k h hB => ?_, fun k => ?_⟩
    · rcases h with h | h
      · exact c3 k h ((a4 k).2 (.inr hB))
      · exact a3 k h hB
    · rw [c4 k, a4 k, or_assoc]
end

def apartL (b : Nat) : List (Nat × List Value) → Prop
  | [] => True
  | (c, _) :: l => ¬ b = c ∧ ¬ c = b ∧ apartL b l
def factsL (w : World) : List (Nat × List Value) → Prop
  | [] => True
  | (b, cs) :: l => (∀ o, w.cell? ⟨b, o, none⟩ = cs[o]?) ∧ (∀ o, w.frozen? ⟨b, o, none⟩ = false) ∧ b < w.heap.size ∧ apartL b l ∧ factsL w l
theorem SepL.tags : ∀ {L : List Res} {F : Nat → Prop} {w : World}, SepL L F w → (∀ x ∈ L.filterMap Res.tag, F x.1) ∧ factsL w (L.filterMap Res.tag)
  | [], _, _, _ => ⟨fun x hx => by simp at hx, trivial⟩
  | r :: L, F, w, ⟨A, B, h1, h2, h3, h4⟩ => by
    obtain ⟨i1, i2⟩ := SepL.tags h2
    cases hr : r.tag with
    | none =>
      rw [List.filterMap_cons_none hr]
      exact ⟨fun x hx => (h4 _).2 (.inr (i1 x hx)), i2⟩
    | some t =>
      obtain ⟨b, cs⟩ := t
      rw [List.filterMap_cons_some hr]
      obtain ⟨hA, f1, f2⟩ := r.facts hr h1
      refine ⟨fun x hx => ?_, f1, f2, r.lt h1 b hA, ?_, i2⟩
      · rcases List.mem_cons.1 hx with rfl | hx
        · exact (h4 _).2 (.inl hA)
        · exact (h4 _).2 (.inr (i1 x hx))
      · have key : ∀ l : List (Nat × List Value), (∀ x ∈ l, B x.1) → apartL b l := by
          intro l
          induction l with
          | nil => exact fun _ => trivial
          | cons x l ih =>
            intro hl
            have hx := hl x (List.mem_cons_self ..)
            have hne : ¬ b = x.1 := fun e => h3 b hA (by rw [e]; exact hx)
            exact ⟨hne, fun e => hne e.symm, ih fun y hy => hl y (List.mem_cons_of_mem _ hy)⟩
        exact key _ i1

/-- of what lay in w0 nothing but F's blocks has turned; the things of L lie apart, in F's blocks and in new ones -/
def Mem (F : Nat → Prop) (w0 w : World) (L : List Res) : Prop := Keeps F w0 w ∧ ∃ G, SepL L G w ∧ ∀ k, G k → F k ∨ w0.heap.size ≤ k
/-- behind a deed a thing lies in F's blocks and in new ones, and nothing else has turned -/
def Upd (F : Nat → Prop) (w0 w : World) (r : Res) : Prop := ∃ F', r.p F' w ∧ Keeps F w0 w ∧ ∀ k, F' k → F k ∨ w0.heap.size ≤ k
section
variable {F G S : Nat → Prop} {w0 w w' : World} {L L' L1 : List Res} {r r' : Res}
theorem Mem.start (h : r.p F w) : Mem F w w [r] := ⟨Keeps.refl _ _, F, ⟨F, fun _ => False, h, fun _ h => h, fun _ _ h => h, fun k => ⟨.inl, fun h => h.resolve_right id⟩⟩, fun k h => .inl h⟩
theorem Mem.start0 (w : World) : Mem NoB w w [] := ⟨Keeps.refl _ _, fun _ => False, fun _ h => h, fun k h => h.elim⟩
theorem Mem.startF (F : Nat → Prop) (w : World) : Mem F w w [] := ⟨Keeps.refl _ _, fun _ => False, fun _ h => h, fun k h => h.elim⟩
theorem Mem.two (h : r.p F w) (h' : r'.p G w) (hd : ∀ k, F k → ¬ G k) : Mem (fun k => F k ∨ G k) w w [r, r'] :=
  ⟨Keeps.refl _ _, fun k => F k ∨ G k, ⟨F, G, h, ⟨G, fun _ => False, h', fun _ h => h, fun _ _ h => h, fun k => ⟨.inl, fun h => h.resolve_right id⟩⟩, hd, fun _ => Iff.rfl⟩, fun k h => .inl h⟩
theorem Mem.pick (h : Mem F w0 w L) (p : Pick L r L') : Mem F w0 w (r :: L') := let ⟨a, G, b, c⟩ := h; ⟨a, G, p.sep b, c⟩
theorem Mem.drop (h : Mem F w0 w (r :: L)) : Mem F w0 w L := by
  obtain ⟨a, G, ⟨A, B, h1, h2, h3, h4⟩, c⟩ := h
  exact ⟨a, B, h2, fun k hB => c k ((h4 k).2 (.inr hB))⟩
theorem Mem.keepsTo (h : Mem F w0 w L) : Keeps F w0 w := h.1
theorem Mem.extTo (h : Mem NoB w0 w L) : Ext w0 w := h.1
theorem Mem.upd (h : Mem F w0 w (r :: L)) : Upd F w0 w r := by
  obtain ⟨a, G, ⟨A, B, h1, h2, h3, h4⟩, c⟩ := h
  exact ⟨A, h1, a, fun k hA => c k ((h4 k).2 (.inl hA))⟩
theorem Mem.facts (h : Mem F w0 w L) : factsL w (L.filterMap Res.tag) := let ⟨_, _, b, _⟩ := h; b.tags.2
theorem Mem.ext (h : Mem F w0 w L) (e : Ext w w') : Mem F w0 w' L := let ⟨a, G, b, c⟩ := h; ⟨a.ext e, G, b.keeps e fun _ _ => noB _, c⟩
theorem Mem.drew (h : Mem F w0 w L) : Mem F w0 w.drew L := h.ext (Ext.drew0 w)
theorem Mem.drewN {n : Nat} (h : Mem F w0 w L) : Mem F w0 (w.drewN n) L := h.ext ((Keeps.refl _ _).drewN n)
/-- a thing that is new -/
theorem Mem.new (h : Mem F w0 w L) (e : Ext w w') (hr : r.p G w') (hG : ∀ k, G k → w.heap.size ≤ k) : Mem F w0 w' (r :: L) := by
  obtain ⟨a, H, b, c⟩ := h
  have hb := b.lt
  refine ⟨a.ext e, fun k => G k ∨ H k, ⟨G, H, hr, b.keeps e fun _ _ => noB _, fun k h1 h2 => by have := hG k h1; have := hb k h2; omega, fun k => Iff.rfl⟩, fun k hk => ?_⟩
  rcases hk with hk | hk
  · have := hG k hk; have := a.size; exact .inr (by omega)
  · exact c k hk
theorem Mem.step' (h : Mem F w0 w (r :: L)) : ∃ A, r.p A w ∧ (∀ k, A k → F k ∨ w0.heap.size ≤ k) ∧ ∀ (r' : Res) (w' : World), Upd A w w' r' → Mem F w0 w' (r' :: L) := by
  obtain ⟨a, G, ⟨A, B, h1, h2, h3, h4⟩, c⟩ := h
  have hA := fun k hk => c k ((h4 k).2 (.inl hk))
  refine ⟨A, h1, hA, fun r' w' ⟨A', u1, u2, u3⟩ => ?_⟩
  have hB := fun k hk => c k ((h4 k).2 (.inr hk))
  have hlt := h2.lt
  refine ⟨a.then u2 fun i hi h => ?_, fun k => A' k ∨ B k, ⟨A', B, u1, h2.keeps u2 fun k hk hA' => h3 k hA' hk, fun k h5 h6 => ?_, fun k => Iff.rfl⟩, fun k hk => ?_⟩
  · rcases hA i h with h | h
    · exact h
    · omega
  · rcases u3 k h5 with h | h
    · exact h3 k h h6
    · have := hlt k h6; omega
  · rcases hk with hk | hk
    · rcases u3 k hk with h | h
      · exact hA k h
      · have := a.size; exact .inr (by omega)
    · exact hB k hk
/-- a deed of one thing's own -/
theorem Mem.step (h : Mem F w0 w (r :: L)) : ∃ A, r.p A w ∧ ∀ (r' : Res) (w' : World), Upd A w w' r' → Mem F w0 w' (r' :: L) := let ⟨A, h1, _, h2⟩ := h.step'; ⟨A, h1, h2⟩
/-- .. of one thing that comes to be several -/
theorem Mem.open (h : Mem F w0 w (r :: L)) (ho : ∀ A, r.p A w → ∃ B, SepL L1 B w ∧ ∀ k, B k → A k) : Mem F w0 w (L1 ++ L) := by
  obtain ⟨a, G, ⟨A, B, h1, h2, h3, h4⟩, c⟩ := h
  obtain ⟨C, d1, d2⟩ := ho A h1
  refine ⟨a, fun k => C k ∨ B k, SepL.append d1 h2 (fun k hC => h3 k (d2 k hC)) (fun k => Iff.rfl), fun k hk => c k ((h4 k).2 ?_)⟩
  rcases hk with hk | hk
  · exact .inl (d2 k hk)
  · exact .inr hk
theorem Mem.openE {α : Sort _} {M : α → List Res} (h : Mem F w0 w (r :: L)) (ho : ∀ A, r.p A w → ∃ x B, SepL (M x) B w ∧ ∀ k, B k → A k) : ∃ x, Mem F w0 w (M x ++ L) := by
  obtain ⟨a, G, ⟨A, B, h1, h2, h3, h4⟩, c⟩ := h
  obtain ⟨x, C, d1, d2⟩ := ho A h1
  refine ⟨x, a, fun k => C k ∨ B k, SepL.append d1 h2 (fun k hC => h3 k (d2 k hC)) (fun k => Iff.rfl), fun k hk => c k ((h4 k).2 ?_)⟩
  rcases hk with hk | hk
  · exact .inl (d2 k hk)
  · exact .inr hk
theorem Mem.close (h : Mem F w0 w (L1 ++ L)) (hc : ∀ A, SepL L1 A w → r.p A w) : Mem F w0 w (r :: L) := by
  obtain ⟨a, G, b, c⟩ := h
  obtain ⟨A, B, h1, h2, h3, h4⟩ := b.split
  exact ⟨a, G, ⟨A, B, hc A h1, h2, h3, h4⟩, c⟩
theorem Mem.turn (h : Mem F w0 w (r :: L)) (hc : ∀ A, r.p A w → r'.p A w) : Mem F w0 w (r' :: L) := by
  obtain ⟨a, G, ⟨A, B, h1, h2, h3, h4⟩, c⟩ := h
  exact ⟨a, G, ⟨A, B, hc A h1, h2, h3, h4⟩, c⟩
theorem Mem.get (h : Mem F w0 w L) (p : Pick L r L') : ∃ A, r.p A w := let ⟨_, _, ⟨A, _, h1, _⟩, _⟩ := h.pick p; ⟨A, h1⟩
theorem Mem.fact {φ : Prop} (h : Mem F w0 w (r :: L)) (hf : ∀ A, r.p A w → φ) : φ := let ⟨_, _, ⟨A, _, h1, _⟩, _⟩ := h; hf A h1
theorem Mem.alloc {t : TypeId} {cs : List Value} {n : Nat} (h : Mem F w0 w L) (hn : w.heap.size = n) : Mem F w0 (w.alloc (.cells cs.toArray t)) (cellsR n t cs :: L) := by
  subst hn
  exact h.new (G := fun k => k = w.heap.size) ((Keeps.refl _ _).alloc _) ⟨fun k => Iff.rfl, Box.new w t cs⟩ (fun k hk => by omega)
theorem Mem.allocO {o : Obj} (h : Mem F w0 w L) : Mem F w0 (w.alloc o) L := h.ext ((Keeps.refl _ _).alloc _)
theorem Mem.set {b o : Nat} {t : TypeId} {cs : List Value} {v : Value} (h : Mem F w0 w L) (p : Pick L (cellsR b t cs) L') : Mem F w0 (w.setCell ⟨b, o, none⟩ v) (cellsR b t (cs.set o v) :: L') := by
  obtain ⟨A, h1, h2⟩ := (h.pick p).step
  refine h2 _ _ ⟨A, ⟨h1.1, h1.2.set o v⟩, (Keeps.refl _ _).setCell _ _ (.inl ((h1.1 b).2 rfl)), fun k h => .inl h⟩
/-- a deed of nothing's own but what it makes -/
theorem Mem.call {P : Program} {f : FuncId} {args : Array Value} {K : Ending → World → Prop} (h : Mem F w0 w' L) (k : ∀ w, Mem F w0 w L → Calls P f args w K) : Calls P f args w' K := k _ h
theorem Mem.stop {P : Program} {ops : Array Oper} {Q : Exit → Act → World → Prop} {l : List Oper} {a : Act} (h : Mem F w0 w' L) (k : ∀ w, Mem F w0 w L → Stopped (wpList P ops Q l a w)) : Stopped (wpList P ops Q l a w') := k _ h
theorem Mem.list {P : Program} {ops : Array Oper} {Q : Exit → Act → World → Prop} {l : List Oper} {a : Act} (h : Mem F w0 w' L) (k : ∀ w, Mem F w0 w L → wpList P ops Q l a w) : wpList P ops Q l a w' := k _ h
theorem Mem.code {P : Program} {c : Code} {Q : Exit → Act → World → Prop} {a : Act} (h : Mem F w0 w' L) (k : ∀ w, Mem F w0 w L → c.wp P Q a w) : c.wp P Q a w' := k _ h
theorem Mem.postD {P : Program} {fn : Func} {R : Ending → World → Prop} {e : Exit} {a : Act} (h : Mem F w0 w' L) (k : ∀ w, Mem F w0 w L → bodyPostD P fn R e a w) : bodyPostD P fn R e a w' := k _ h
theorem Mem.toUpd (h : Mem F w0 w' L) (k : ∀ w, Mem F w0 w L → Upd F w0 w r) : Upd F w0 w' r := k _ h
/-- append onto a slice that is owned -/
theorem Mem.append {P : Program} (t tx ty e : TypeId) (i : TypeInfo) (z : Value) (sz bytes : Nat) (ht : P.underlying t = some (.slice e)) (hi : P.info? e = some i) (hz : i.zero = some z)
    (hsize : i.size = sz) (hby : i.bytes = bytes) (hzs : z.cells.size = sz) {v : Value} {n : Nat} {cs : List Value} (h : Mem F w0 w (winR sz v n cs :: L))
    (x : Value) (m : Nat) (news : List Value) (hs : Src P sz tx x m news w) (h63 : n + m ≤ maxLen) (hbytes : (n + m) * bytes ≤ 140737488355328) :
    ∃ v' w', (Builtin.append_ #[t, tx] ty #[v, x]).run P w = .ok v' w' ∧ Mem F w0 w' (winR sz v' (n + m) (cs ++ news) :: L) := by
  obtain ⟨A, h1, h2⟩ := h.step
  obtain ⟨v', w', hr, hw, hk, ho⟩ := run_append_win w 0 t tx ty e i z sz bytes ht hi hz hsize hby hzs v n cs h1.2 x m news hs h63 hbytes (Nat.zero_le _)
  refine ⟨v', w', hr, h2 _ _ ⟨Own v', ⟨fun k => Iff.rfl, hw⟩, hk.mono fun k _ hk => (h1.1 k).2 hk, fun k hk => ?_⟩⟩
  rcases ho with ho | ho
  · exact .inl ((h1.1 k).2 (by rw [← ho]; exact hk))
  · have hk' : v'.ownBlock = some k := hk
    rw [ho] at hk'
    exact .inr (by have := Option.some.inj hk'; omega)
end
end Go.Proofs.YthhdgjofagdjeaaDoor
