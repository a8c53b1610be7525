/- Texts Sep, UpdP, Wide, SepB, Row, Auto, WideS, Agg, U8, StrS, U8S, one behind the other. Conditions: as each says. -/
import Derived.Test.YtoadjbgpfihoiaaGreatDoorRaB
import Derived.Laws.Rows
import Derived.Lib.ReflectliteSwap
import Derived.ChangeKeysEq
import Derived.Lib.ConvBytes
set_option linter.unusedVariables false
set_option linter.unusedSimpArgs false
set_option maxHeartbeats 8000000
set_option maxRecDepth 100000
namespace Go.Proofs.YtoadjbgpfihoiaaGreatDoor
open Go.RowKit
section
structure Res where
 tag : Option (Nat × List Value)
 p : (Nat → Prop) → World → Prop
 keeps : ∀ {F S w w'}, p F w → Keeps S w w' → (∀ k, F k → ¬ S k) → p F w'
 lt : ∀ {F w}, p F w → ∀ k, F k → k < w.heap.size
 facts : ∀ {F w b cs}, tag = some (b, cs) → p F w → F b ∧ (∀ o, w.cell? ⟨b, o, none⟩ = cs[o]?) ∧ ∀ o, w.frozen? ⟨b, o, none⟩ = false
def cellsR (b : Nat) (t : TypeId) (cs : List Value) : Res where
 tag := some (b, cs)
 p F w := (∀ k, F k ↔ k = b) ∧ Box w b t cs
 keeps h hk hs := ⟨h.1, h.2.keeps hk (hs b ((h.1 b).2 rfl))⟩
 lt h k hk := by rw [(h.1 k).1 hk]; exact h.2.lt
 facts e h := by cases e; exact ⟨(h.1 b).2 rfl, h.2.reads.1, h.2.reads.2⟩
def winR (sz : Nat) (v : Value) (n : Nat) (cs : List Value) : Res where
 tag := none
 p F w := (∀ k, F k ↔ v.ownBlock = some k) ∧ Win w 0 sz v n cs
 keeps h hk hs := ⟨h.1, h.2.keeps hk fun g hg => hs g ((h.1 g).2 hg)⟩
 lt h k hk := (h.2.block k ((h.1 k).1 hk)).2
 facts e h := by cases e
def anyR (p : (Nat → Prop) → World → Prop) (keeps : ∀ {F S w w'}, p F w → Keeps S w w' → (∀ k, F k → ¬ S k) → p F w') (lt : ∀ {F w}, p F w → ∀ k, F k → k < w.heap.size) : Res where
 tag := none
 p := p
 keeps := keeps
 lt := lt
 facts e h := by cases e
def SepL : List Res → (Nat → Prop) → World → Prop
 | [], F, w => ∀ k, ¬ F k
 | r :: L, F, w => ∃ A B, r.p A w ∧ SepL L B w ∧ (∀ k, A k → ¬ B k) ∧ ∀ k, F k ↔ A k ∨ B k
inductive Pick : List Res → Res → List Res → Prop
 | here {r L} : Pick (r :: L) r L
 | there {x r L L'} : Pick L r L' → Pick (x :: L) r (x :: L')
class PkR (L : List Res) (r : Res) (L' : outParam (List Res)) : Prop where
 out : Pick L r L'
instance (priority := 2000) pkh (r : Res) (L : List Res) : PkR (r :: L) r L := ⟨.here⟩
instance pkt (x r : Res) (L L' : List Res) [h : PkR L r L'] : PkR (x :: L) r (x :: L') := ⟨.there h.out⟩
theorem pk {L L' : List Res} {r : Res} [h : PkR L r L'] : Pick L r L' := h.out
theorem ph {r : Res} {L : List Res} : Pick (r :: L) r L := .here
theorem pt {x r : Res} {L L' : List Res} (h : Pick L r L') : Pick (x :: L) r (x :: L') := .there h
section
variable {F G S : Nat → Prop} {w w' : World} {L L' : List Res} {r r' : Res}
theorem SepL.keeps : ∀ {L : List Res} {F S : Nat → Prop} {w w' : World}, SepL L F w → Keeps S w w' → (∀ k, F k → ¬ S k) → SepL L F w'
 | [], _, _, _, _, h, _, _ => h
 | _ :: _, _, _, _, _, ⟨A, B, h1, h2, h3, h4⟩, hk, hs => ⟨A, B, Res.keeps _ h1 hk fun k hA => hs k ((h4 k).2 (.inl hA)), SepL.keeps h2 hk fun k hB => hs k ((h4 k).2 (.inr hB)), h3, h4⟩
theorem SepL.lt : ∀ {L : List Res} {F : Nat → Prop} {w : World}, SepL L F w → ∀ k, F k → k < w.heap.size
 | [], _, _, h, k, hF => (h k hF).elim
 | _ :: _, _, _, ⟨A, B, h1, h2, h3, h4⟩, k, hF => by
   rcases (h4 k).1 hF with h | h
   · exact Res.lt _ h1 k h
   · exact SepL.lt h2 k h
theorem SepL.congr : ∀ {L : List Res} {F G : Nat → Prop} {w : World}, SepL L F w → (∀ k, G k ↔ F k) → SepL L G w
 | [], _, _, _, h, e => fun k hk => h k ((e k).1 hk)
 | _ :: _, _, _, _, ⟨A, B, h1, h2, h3, h4⟩, e => ⟨A, B, h1, h2, h3, fun k => (e k).trans (h4 k)⟩
theorem SepL.swap {x : Res} (h : SepL (x :: r :: L) F w) : SepL (r :: x :: L) F w := by
 obtain ⟨A, B, h1, ⟨C, D, h2, h3, h4, h5⟩, h6, h7⟩ := h
 refine ⟨C, fun k => A k ∨ D k, h2, ⟨A, D, h1, h3, fun k hA hD => h6 k hA ((h5 k).2 (.inr hD)), fun k => Iff.rfl⟩, fun k hC hAD => ?_, fun k => ?_⟩
 · rcases hAD with h | h
   · exact h6 k h ((h5 k).2 (.inl hC))
   · exact h4 k hC h
 · rw [h7 k, h5 k]
   constructor
   · rintro (h | h | h)
     · exact .inr (.inl h)
     · exact .inl h
     · exact .inr (.inr h)
   · rintro (h | h | h)
     · exact .inr (.inl h)
     · exact .inl h
     · exact .inr (.inr h)
theorem Pick.sep : ∀ {L L' : List Res} {r : Res} {F : Nat → Prop}, Pick L r L' → SepL L F w → SepL (r :: L') F w
 | _, _, _, _, .here, h => h
 | _, _, _, _, .there p, ⟨A, B, h1, h2, h3, h4⟩ => SepL.swap ⟨A, B, h1, p.sep h2, h3, h4⟩
theorem SepL.append : ∀ {L1 L2 : List Res} {A B F : Nat → Prop}, SepL L1 A w → SepL L2 B w → (∀ k, A k → ¬ B k) → (∀ k, F k ↔ A k ∨ B k) → SepL (L1 ++ L2) F w
 | [], _, A, B, F, h1, h2, _, e => h2.congr fun k => by rw [e k]; exact ⟨fun h => h.resolve_left (h1 k), .inr⟩
 | _ :: _, _, A, B, F, ⟨C, D, c1, c2, c3, c4⟩, h2, h3, e => by
   refine ⟨C, fun k => D k ∨ B k, c1, SepL.append c2 h2 (fun k hD => h3 k ((c4 k).2 (.inr hD))) (fun k => Iff.rfl), fun k hC h => ?_, fun k => ?_⟩
   · rcases h with h | h
     · exact c3 k hC h
     · exact h3 k ((c4 k).2 (.inl hC)) h
   · rw [e k, c4 k, or_assoc]
theorem SepL.split : ∀ {L1 L2 : List Res} {F : Nat → Prop}, SepL (L1 ++ L2) F w → ∃ A B, SepL L1 A w ∧ SepL L2 B w ∧ (∀ k, A k → ¬ B k) ∧ ∀ k, F k ↔ A k ∨ B k
 | [], L2, F, h => ⟨fun _ => False, F, fun k h => h, h, fun k h _ => h, fun k => ⟨.inr, fun h => h.resolve_left id⟩⟩
 | x :: L1, L2, F, ⟨C, D, c1, c2, c3, c4⟩ => by
   obtain ⟨A, B, a1, a2, a3, a4⟩ := SepL.split c2
   refine ⟨fun k => C k ∨ A k, B, ⟨C, A, c1, a1, fun k hC hA => c3 k hC ((a4 k).2 (.inl hA)), fun k => Iff.rfl⟩, a2, fun k h hB => ?_, fun k => ?_⟩
   · rcases h with h | h
     · exact c3 k h ((a4 k).2 (.inr hB))
     · exact a3 k h hB
   · rw [c4 k, a4 k, or_assoc]
end
def apartL (b : Nat) : List (Nat × List Value) → Prop
 | [] => True
 | (c, _) :: l => ¬ b = c ∧ ¬ c = b ∧ apartL b l
def factsL (w : World) : List (Nat × List Value) → Prop
 | [] => True
 | (b, cs) :: l => (∀ o, w.cell? ⟨b, o, none⟩ = cs[o]?) ∧ (∀ o, w.frozen? ⟨b, o, none⟩ = false) ∧ b < w.heap.size ∧ apartL b l ∧ factsL w l
theorem SepL.tags : ∀ {L : List Res} {F : Nat → Prop} {w : World}, SepL L F w → (∀ x ∈ L.filterMap Res.tag, F x.1) ∧ factsL w (L.filterMap Res.tag)
 | [], _, _, _ => ⟨fun x hx => by simp at hx, trivial⟩
 | r :: L, F, w, ⟨A, B, h1, h2, h3, h4⟩ => by
   obtain ⟨i1, i2⟩ := SepL.tags h2
   cases hr : r.tag with
   | none =>
     rw [List.filterMap_cons_none hr]
     exact ⟨fun x hx => (h4 _).2 (.inr (i1 x hx)), i2⟩
   | some t =>
     obtain ⟨b, cs⟩ := t
     rw [List.filterMap_cons_some hr]
     obtain ⟨hA, f1, f2⟩ := r.facts hr h1
     refine ⟨fun x hx => ?_, f1, f2, r.lt h1 b hA, ?_, i2⟩
     · rcases List.mem_cons.1 hx with rfl | hx
       · exact (h4 _).2 (.inl hA)
       · exact (h4 _).2 (.inr (i1 x hx))
     · have key : ∀ l : List (Nat × List Value), (∀ x ∈ l, B x.1) → apartL b l := by
        intro l
        induction l with
        | nil => exact fun _ => trivial
        | cons x l ih =>
          intro hl
          have hx := hl x (List.mem_cons_self ..)
          have hne : ¬ b = x.1 := fun e => h3 b hA (by rw [e]; exact hx)
          exact ⟨hne, fun e => hne e.symm, ih fun y hy => hl y (List.mem_cons_of_mem _ hy)⟩
       exact key _ i1
def Mem (F : Nat → Prop) (w0 w : World) (L : List Res) : Prop := Keeps F w0 w ∧ ∃ G, SepL L G w ∧ ∀ k, G k → F k ∨ w0.heap.size ≤ k
def Upd (F : Nat → Prop) (w0 w : World) (r : Res) : Prop := ∃ F', r.p F' w ∧ Keeps F w0 w ∧ ∀ k, F' k → F k ∨ w0.heap.size ≤ k
section
variable {F G S : Nat → Prop} {w0 w w' : World} {L L' L1 : List Res} {r r' : Res}
theorem Mem.start (h : r.p F w) : Mem F w w [r] := ⟨Keeps.refl _ _, F, ⟨F, fun _ => False, h, fun _ h => h, fun _ _ h => h, fun k => ⟨.inl, fun h => h.resolve_right id⟩⟩, fun k h => .inl h⟩
theorem Mem.start0 (w : World) : Mem NoB w w [] := ⟨Keeps.refl _ _, fun _ => False, fun _ h => h, fun k h => h.elim⟩
theorem Mem.pick (h : Mem F w0 w L) (p : Pick L r L') : Mem F w0 w (r :: L') := let ⟨a, G, b, c⟩ := h; ⟨a, G, p.sep b, c⟩
theorem Mem.drop (h : Mem F w0 w (r :: L)) : Mem F w0 w L := by
 obtain ⟨a, G, ⟨A, B, h1, h2, h3, h4⟩, c⟩ := h
 exact ⟨a, B, h2, fun k hB => c k ((h4 k).2 (.inr hB))⟩
theorem Mem.keepsTo (h : Mem F w0 w L) : Keeps F w0 w := h.1
theorem Mem.extTo (h : Mem NoB w0 w L) : Ext w0 w := h.1
theorem Mem.upd (h : Mem F w0 w (r :: L)) : Upd F w0 w r := by
 obtain ⟨a, G, ⟨A, B, h1, h2, h3, h4⟩, c⟩ := h
 exact ⟨A, h1, a, fun k hA => c k ((h4 k).2 (.inl hA))⟩
theorem Mem.facts (h : Mem F w0 w L) : factsL w (L.filterMap Res.tag) := let ⟨_, _, b, _⟩ := h; b.tags.2
theorem Mem.ext (h : Mem F w0 w L) (e : Ext w w') : Mem F w0 w' L := let ⟨a, G, b, c⟩ := h; ⟨a.ext e, G, b.keeps e fun _ _ => noB _, c⟩
theorem Mem.drew (h : Mem F w0 w L) : Mem F w0 w.drew L := h.ext (Ext.drew0 w)
theorem Mem.drewN {n : Nat} (h : Mem F w0 w L) : Mem F w0 (w.drewN n) L := h.ext ((Keeps.refl _ _).drewN n)
theorem Mem.new (h : Mem F w0 w L) (e : Ext w w') (hr : r.p G w') (hG : ∀ k, G k → w.heap.size ≤ k) : Mem F w0 w' (r :: L) := by
 obtain ⟨a, H, b, c⟩ := h
 have hb := b.lt
 refine ⟨a.ext e, fun k => G k ∨ H k, ⟨G, H, hr, b.keeps e fun _ _ => noB _, fun k h1 h2 => by have := hG k h1; have := hb k h2; omega, fun k => Iff.rfl⟩, fun k hk => ?_⟩
 rcases hk with hk | hk
 · have := hG k hk; have := a.size; exact .inr (by omega)
 · exact c k hk
theorem Mem.step' (h : Mem F w0 w (r :: L)) : ∃ A, r.p A w ∧ (∀ k, A k → F k ∨ w0.heap.size ≤ k) ∧ ∀ (r' : Res) (w' : World), Upd A w w' r' → Mem F w0 w' (r' :: L) := by
 obtain ⟨a, G, ⟨A, B, h1, h2, h3, h4⟩, c⟩ := h
 have hA := fun k hk => c k ((h4 k).2 (.inl hk))
 refine ⟨A, h1, hA, fun r' w' ⟨A', u1, u2, u3⟩ => ?_⟩
 have hB := fun k hk => c k ((h4 k).2 (.inr hk))
 have hlt := h2.lt
 refine ⟨a.then u2 fun i hi h => ?_, fun k => A' k ∨ B k, ⟨A', B, u1, h2.keeps u2 fun k hk hA' => h3 k hA' hk, fun k h5 h6 => ?_, fun k => Iff.rfl⟩, fun k hk => ?_⟩
 · rcases hA i h with h | h
   · exact h
   · omega
 · rcases u3 k h5 with h | h
   · exact h3 k h h6
   · have := hlt k h6; omega
 · rcases hk with hk | hk
   · rcases u3 k hk with h | h
     · exact hA k h
     · have := a.size; exact .inr (by omega)
   · exact hB k hk
theorem Mem.step (h : Mem F w0 w (r :: L)) : ∃ A, r.p A w ∧ ∀ (r' : Res) (w' : World), Upd A w w' r' → Mem F w0 w' (r' :: L) := let ⟨A, h1, _, h2⟩ := h.step'; ⟨A, h1, h2⟩
theorem Mem.open (h : Mem F w0 w (r :: L)) (ho : ∀ A, r.p A w → ∃ B, SepL L1 B w ∧ ∀ k, B k → A k) : Mem F w0 w (L1 ++ L) := by
 obtain ⟨a, G, ⟨A, B, h1, h2, h3, h4⟩, c⟩ := h
 obtain ⟨C, d1, d2⟩ := ho A h1
 refine ⟨a, fun k => C k ∨ B k, SepL.append d1 h2 (fun k hC => h3 k (d2 k hC)) (fun k => Iff.rfl), fun k hk => c k ((h4 k).2 ?_)⟩
 rcases hk with hk | hk
 · exact .inl (d2 k hk)
 · exact .inr hk
theorem Mem.openE {α : Sort _} {M : α → List Res} (h : Mem F w0 w (r :: L)) (ho : ∀ A, r.p A w → ∃ x B, SepL (M x) B w ∧ ∀ k, B k → A k) : ∃ x, Mem F w0 w (M x ++ L) := by
 obtain ⟨a, G, ⟨A, B, h1, h2, h3, h4⟩, c⟩ := h
 obtain ⟨x, C, d1, d2⟩ := ho A h1
 refine ⟨x, a, fun k => C k ∨ B k, SepL.append d1 h2 (fun k hC => h3 k (d2 k hC)) (fun k => Iff.rfl), fun k hk => c k ((h4 k).2 ?_)⟩
 rcases hk with hk | hk
 · exact .inl (d2 k hk)
 · exact .inr hk
theorem Mem.close (h : Mem F w0 w (L1 ++ L)) (hc : ∀ A, SepL L1 A w → r.p A w) : Mem F w0 w (r :: L) := by
 obtain ⟨a, G, b, c⟩ := h
 obtain ⟨A, B, h1, h2, h3, h4⟩ := b.split
 exact ⟨a, G, ⟨A, B, hc A h1, h2, h3, h4⟩, c⟩
theorem Mem.turn (h : Mem F w0 w (r :: L)) (hc : ∀ A, r.p A w → r'.p A w) : Mem F w0 w (r' :: L) := by
 obtain ⟨a, G, ⟨A, B, h1, h2, h3, h4⟩, c⟩ := h
 exact ⟨a, G, ⟨A, B, hc A h1, h2, h3, h4⟩, c⟩
theorem Mem.get (h : Mem F w0 w L) (p : Pick L r L') : ∃ A, r.p A w := let ⟨_, _, ⟨A, _, h1, _⟩, _⟩ := h.pick p; ⟨A, h1⟩
theorem Mem.fact {φ : Prop} (h : Mem F w0 w (r :: L)) (hf : ∀ A, r.p A w → φ) : φ := let ⟨_, _, ⟨A, _, h1, _⟩, _⟩ := h; hf A h1
theorem Mem.alloc {t : TypeId} {cs : List Value} {n : Nat} (h : Mem F w0 w L) (hn : w.heap.size = n) : Mem F w0 (w.alloc (.cells cs.toArray t)) (cellsR n t cs :: L) := by
 subst hn
 exact h.new (G := fun k => k = w.heap.size) ((Keeps.refl _ _).alloc _) ⟨fun k => Iff.rfl, Box.new w t cs⟩ (fun k hk => by omega)
theorem Mem.allocO {o : Obj} (h : Mem F w0 w L) : Mem F w0 (w.alloc o) L := h.ext ((Keeps.refl _ _).alloc _)
theorem Mem.set {b o : Nat} {t : TypeId} {cs : List Value} {v : Value} (h : Mem F w0 w L) (p : Pick L (cellsR b t cs) L') : Mem F w0 (w.setCell ⟨b, o, none⟩ v) (cellsR b t (cs.set o v) :: L') := by
 obtain ⟨A, h1, h2⟩ := (h.pick p).step
 refine h2 _ _ ⟨A, ⟨h1.1, h1.2.set o v⟩, (Keeps.refl _ _).setCell _ _ (.inl ((h1.1 b).2 rfl)), fun k h => .inl h⟩
theorem Mem.call {P : Program} {f : FuncId} {args : Array Value} {K : Ending → World → Prop} (h : Mem F w0 w' L) (k : ∀ w, Mem F w0 w L → Calls P f args w K) : Calls P f args w' K := k _ h
theorem Mem.list {P : Program} {ops : Array Oper} {Q : Exit → Act → World → Prop} {l : List Oper} {a : Act} (h : Mem F w0 w' L) (k : ∀ w, Mem F w0 w L → wpList P ops Q l a w) : wpList P ops Q l a w' := k _ h
theorem Mem.append {P : Program} (t tx ty e : TypeId) (i : TypeInfo) (z : Value) (sz bytes : Nat) (ht : P.underlying t = some (.slice e)) (hi : P.info? e = some i) (hz : i.zero = some z)
 (hsize : i.size = sz) (hby : i.bytes = bytes) (hzs : z.cells.size = sz) {v : Value} {n : Nat} {cs : List Value} (h : Mem F w0 w (winR sz v n cs :: L))
 (x : Value) (m : Nat) (news : List Value) (hs : Src P sz tx x m news w) (h63 : n + m ≤ maxLen) (hbytes : (n + m) * bytes ≤ 140737488355328) :
 ∃ v' w', (Builtin.append_ #[t, tx] ty #[v, x]).run P w = .ok v' w' ∧ Mem F w0 w' (winR sz v' (n + m) (cs ++ news) :: L) := by
 obtain ⟨A, h1, h2⟩ := h.step
 obtain ⟨v', w', hr, hw, hk, ho⟩ := run_append_win w 0 t tx ty e i z sz bytes ht hi hz hsize hby hzs v n cs h1.2 x m news hs h63 hbytes (Nat.zero_le _)
 refine ⟨v', w', hr, h2 _ _ ⟨Own v', ⟨fun k => Iff.rfl, hw⟩, hk.mono fun k _ hk => (h1.1 k).2 hk, fun k hk => ?_⟩⟩
 rcases ho with ho | ho
 · exact .inl ((h1.1 k).2 (by rw [← ho]; exact hk))
 · have hk' : v'.ownBlock = some k := hk
   rw [ho] at hk'
   exact .inr (by have := Option.some.inj hk'; omega)
end
end
section
theorem Mem.newU {F : Nat → Prop} {w0 w w' : World} {L : List Res} {r : Res} (h : Mem F w0 w L) (u : Upd NoB w w' r) : Mem F w0 w' (r :: L) := by
 obtain ⟨F', h1, h2, h3⟩ := u
 exact h.new (G := F') h2 h1 fun k hk => (h3 k hk).resolve_left (noB _)
theorem Upd.pre {A : Nat → Prop} {w w1 w2 : World} {r : Res} (e : Ext w w1) (u : Upd A w1 w2 r) : Upd A w w2 r := by
 obtain ⟨F', h1, h2, h3⟩ := u
 exact ⟨F', h1, (Ext.keeps e).trans h2, fun k hk => (h3 k hk).imp id fun h => Nat.le_trans e.size h⟩
theorem Mem.callE {P : Program} {f : FuncId} {args : Array Value} {K : Ending → World → Prop} {F : Nat → Prop} {w0 w' wr : World} {L : List Res} (h : Mem F w0 w' L) (h2 : Ext wr w') (k : ∀ w, Mem F w0 w L → Ext wr w → Calls P f args w K) : Calls P f args w' K := k _ h h2
end
section
section
variable {P : Program} {ops : Array Oper} {rest : List Oper} {o : Oper} {a : Act} {w w' : World} {Q : Exit → Act → World → Prop}
theorem wpList_skip_ran (hg : o.guard = none) (hr : (execOp a.eval o).run P w = .ok .skip w') (h : wpList P ops Q rest (a.put o.dst undef) w') : wpList P ops Q (o :: rest) a w := by
 refine wpList_plain hg fun K hK => ?_
 unfold Oper.wp
 rw [hr]
 exact hK _ _ h
theorem Box.setAll {b : Nat} {t : TypeId} : ∀ (vs cs pre : List Value) (w : World), Box w b t (pre ++ cs) → cs.length = vs.length → Box (w.setCells b pre.length vs) b t (pre ++ vs)
 | [], cs, pre, w, hb, hl => by
   obtain rfl : cs = [] := List.eq_nil_of_length_eq_zero hl
   exact hb
 | v :: vs, [], pre, w, hb, hl => by simp at hl
 | v :: vs, c :: cs, pre, w, hb, hl => by
   have h1 := hb.set pre.length v
   rw [List.set_append_right _ _ (Nat.le_refl _), Nat.sub_self, List.set_cons_zero] at h1
   have h2 := Box.setAll vs cs (pre ++ [v]) (w.setCell ⟨b, pre.length, none⟩ v) (by simpa using h1) (by simpa using hl)
   rw [List.length_append, List.append_assoc] at h2
   exact h2
theorem wpList_store_wide (ty : TypeId) {b : Nat} {t : TypeId} {cs vs : List Value} {i : TypeInfo} (x y : Operand) (hb : Box w b t cs) (hi : P.info? ty = some i) (hs : vs.length = i.size) (hc : cs.length = i.size) (h1 : ∀ v ∈ vs, v.oneCell' = true)
 (ho : o.op = .store ty x y) (hg : o.guard = none) (hx : a.eval x = .pointer (some ⟨b, 0, none⟩)) (hy : a.eval y = .agg vs.toArray)
 (h : ∀ w', Box w' b t vs → Keeps (OneB b) w w' → wpList P ops Q rest (a.put o.dst undef) w') : wpList P ops Q (o :: rest) a w := by
 have hr := Lib.rl_storeVar_cells (P := P) ty i hi b 0 vs hs h1 w (fun k hk => by
  rw [hb.reads.1, List.getElem?_eq_getElem (by omega)]; rfl) (fun k hk => by rw [hb.reads.2])
 refine wpList_skip_ran hg (w' := w.setCells b 0 vs) (by simp [execOp, ho, hx, hy, Instr.storeAt, Instr.sureAddr, Result.andThen, hr]) (h _ ?_ ?_)
 · exact Box.setAll vs cs [] w hb (by omega)
 · exact (Keeps.refl _ _).setCells b 0 vs (.inl rfl)
theorem wpList_box_wide (ty : TypeId) {vs : List Value} (x : Operand) (ho : o.op = .box ty x) (hg : o.guard = none) (hx : a.eval x = .agg vs.toArray)
 (h : ∀ w', Box w' w.heap.size ty vs → Ext w w' → w'.heap.size = w.heap.size + 1 → wpList P ops Q rest (a.put o.dst (.pointer (some ⟨w.heap.size, 0, none⟩))) w') : wpList P ops Q (o :: rest) a w :=
 wpList_ran hg (w' := w.alloc (.cells vs.toArray ty)) (by simp [execOp, ho, hx, Instr.box, newVar, newRow, Value.cells, Result.andThen]) (h _ (Box.new _ _ _) ((Keeps.refl _ _).alloc _) (by simp))
theorem wpList_alloc_wide (ty : TypeId) {vs : List Value} (hz : (zeroValue ty).run P w = .ok (.agg vs.toArray) w) (ho : o.op = .alloc ty) (hg : o.guard = none)
 (h : ∀ w', Box w' w.heap.size ty vs → Ext w w' → w'.heap.size = w.heap.size + 1 → wpList P ops Q rest (a.put o.dst (.pointer (some ⟨w.heap.size, 0, none⟩))) w') : wpList P ops Q (o :: rest) a w :=
 wpList_ran hg (w' := w.alloc (.cells vs.toArray ty)) (by simp [execOp, ho, Instr.alloc, hz, newVar, newRow, Value.cells, Result.andThen]) (h _ (Box.new _ _ _) ((Keeps.refl _ _).alloc _) (by simp))
end
end
section
inductive Sub : List Res → List Res → Prop
 | nil {L} : Sub [] L
 | cons {r L L1 L'} : Pick L r L1 → Sub L' L1 → Sub (r :: L') L
class SbR (L' L : List Res) : Prop where
 out : Sub L' L
instance sbn (L : List Res) : SbR [] L := ⟨.nil⟩
instance sbc (r : Res) (L L1 L' : List Res) [p : PkR L r L1] [s : SbR L' L1] : SbR (r :: L') L := ⟨.cons p.out s.out⟩
theorem sb {L' L : List Res} [h : SbR L' L] : Sub L' L := h.out
theorem sub_sep {w : World} : ∀ {L L' : List Res} {G : Nat → Prop}, Sub L' L → SepL L G w → ∃ G', SepL L' G' w ∧ ∀ k, G' k → G k
 | L, [], G, _, h => ⟨fun _ => False, fun _ h => h, fun _ h => h.elim⟩
 | L, r :: L', G, .cons p s, h => by
   obtain ⟨A, B, h1, h2, h3, h4⟩ := p.sep h
   obtain ⟨G', g1, g2⟩ := sub_sep s h2
   exact ⟨fun k => A k ∨ G' k, ⟨A, G', h1, g1, fun k hA hG => h3 k hA (g2 k hG), fun k => Iff.rfl⟩, fun k hk => (h4 k).2 (hk.imp id (g2 k))⟩
theorem Mem.sub {F : Nat → Prop} {w0 w : World} {L L' : List Res} (h : Mem F w0 w L) (s : Sub L' L) : Mem F w0 w L' := by
 obtain ⟨a, G, b, c⟩ := h
 obtain ⟨G', g1, g2⟩ := sub_sep s b
 exact ⟨a, G', g1, fun k hk => c k (g2 k hk)⟩
theorem Mem.mem {F : Nat → Prop} {w0 w' : World} {L L' : List Res} (h : Mem F w0 w' L) (k : ∀ w, Mem F w0 w L → Mem F w0 w L') : Mem F w0 w' L' := k _ h
theorem Mem.post {P : Program} {fn : Func} {R : Ending → World → Prop} {e : Exit} {a : Act} {F : Nat → Prop} {w0 w' : World} {L : List Res} (h : Mem F w0 w' L) (k : ∀ w, Mem F w0 w L → bodyPost P fn R e a w) : bodyPost P fn R e a w' := k _ h
section
variable {P : Program} {ops : Array Oper} {rest : List Oper} {o : Oper} {a : Act} {w w0 : World} {Q : Exit → Act → World → Prop} {F : Nat → Prop} {L L' : List Res}
theorem at_load (ty : TypeId) (x : Operand) (ho : o.op = .load ty x) (h : wpList P ops Q (o :: rest) a w) : wpList P ops Q (o :: rest) a w := h
theorem at_store (ty : TypeId) (x y : Operand) (ho : o.op = .store ty x y) (h : wpList P ops Q (o :: rest) a w) : wpList P ops Q (o :: rest) a w := h
theorem at_box (ty : TypeId) (x : Operand) (ho : o.op = .box ty x) (h : wpList P ops Q (o :: rest) a w) : wpList P ops Q (o :: rest) a w := h
theorem at_alloc (ty : TypeId) (ho : o.op = .alloc ty) (h : wpList P ops Q (o :: rest) a w) : wpList P ops Q (o :: rest) a w := h
theorem at_list {l : List Oper} (h : wpList P ops Q l a w) : wpList P ops Q l a w := h
theorem mem_store_wide (ty : TypeId) {b : Nat} {t : TypeId} {cs vs : List Value} (x y : Operand) (ho : o.op = .store ty x y) (hg : o.guard = none) (hx : a.eval x = .pointer (some ⟨b, 0, none⟩)) (hy : a.eval y = .agg vs.toArray) (h : Mem F w0 w L) (p : Pick L (cellsR b t cs) L') {n : Nat}
 (hn : (P.info? ty).map (·.size) = some n) (hs : vs.length = n) (hc : cs.length = n) (h1 : ∀ v ∈ vs, v.oneCell' = true)
 (k : ∀ w', Mem F w0 w' (cellsR b t vs :: L') → wpList P ops Q rest (a.put o.dst undef) w') : wpList P ops Q (o :: rest) a w := by
 obtain ⟨A, hA, hS⟩ := (h.pick p).step
 obtain ⟨i, hi, hin⟩ : ∃ i, P.info? ty = some i ∧ i.size = n := by
  cases h : P.info? ty with
  | none => rw [h] at hn; cases hn
  | some i => rw [h] at hn; exact ⟨i, rfl, by simpa using hn⟩
 subst hin
 refine wpList_store_wide ty x y hA.2 hi hs hc h1 ho hg hx hy fun w' hb hk => k w' (hS (cellsR b t vs) w' ⟨A, ⟨hA.1, hb⟩, hk.mono fun k _ h => (hA.1 k).2 h, fun k hk => .inl hk⟩)
theorem mem_box_wide (ty : TypeId) {vs : List Value} (x : Operand) (ho : o.op = .box ty x) (hg : o.guard = none) (hx : a.eval x = .agg vs.toArray) (h : Mem F w0 w L)
 (k : ∀ w' n, Mem F w0 w' (cellsR n ty vs :: L) → wpList P ops Q rest (a.put o.dst (.pointer (some ⟨n, 0, none⟩))) w') : wpList P ops Q (o :: rest) a w :=
 wpList_box_wide ty x ho hg hx fun w' hb he hs => k w' _ (h.new (G := fun k => k = w.heap.size) he ⟨fun k => Iff.rfl, hb⟩ (fun k hk => by omega))
theorem mem_alloc_wide (ty : TypeId) {vs : List Value} (ho : o.op = .alloc ty) (hg : o.guard = none) (hz : (zeroValue ty).run P w = .ok (.agg vs.toArray) w) (h : Mem F w0 w L)
 (k : ∀ w' n, Mem F w0 w' (cellsR n ty vs :: L) → wpList P ops Q rest (a.put o.dst (.pointer (some ⟨n, 0, none⟩))) w') : wpList P ops Q (o :: rest) a w :=
 wpList_alloc_wide ty hz ho hg fun w' hb he hs => k w' _ (h.new (G := fun k => k = w.heap.size) he ⟨fun k => Iff.rfl, hb⟩ (fun k hk => by omega))
theorem one_set {cs : List Value} (h : ∀ v ∈ cs, v.oneCell' = true) {u : Value} (hu : u.oneCell' = true) (i : Nat) : ∀ v ∈ cs.set i u, v.oneCell' = true := fun v hv => by
 rcases List.mem_or_eq_of_mem_set hv with h1 | rfl
 · exact h v h1
 · exact hu
theorem loadVar_wide (ty : TypeId) {d : TypeDesc} {b : Nat} {t : TypeId} {cs : List Value} (h : Mem F w0 w L) (p : Pick L (cellsR b t cs) L') (hu : P.underlying ty = some d) (hd : (match d with | .struct _ | .array _ _ => true | _ => false) = true)
 (hi : (P.info? ty).map (·.size) = some cs.length) : (loadVar ty ⟨b, 0, none⟩).run P w = .ok (.agg cs.toArray) w := by
 obtain ⟨_, hb⟩ := h.get p
 exact run_loadVar_row w b t ty cs.toArray (0, 0) d hb.2 hu hd (by simpa using hi)
theorem results_ct {fn : Func} {r s : Nat} {ty : TypeId} {v : Value} {ad : Addr} (hr : fn.results = #[.cell r ty, .tmp s]) (tmps : Array Value) (h0 : tmps.getD r undef = .pointer (some ad)) (hl : (loadVar ty ad).run P w = .ok v w) :
 (results fn tmps).run P w = .ok (.tuple #[v, tmps.getD s undef]) w := by
 unfold results
 rw [hr]
 simp only [List.mapM_toArray, List.mapM_cons, List.mapM_nil]
 simp [h0, asAddr, hl, Sem.run_bind, Result.andThen]
theorem results_c {fn : Func} {r : Nat} {ty : TypeId} {v : Value} {ad : Addr} (hr : fn.results = #[.cell r ty]) (tmps : Array Value) (h0 : tmps.getD r undef = .pointer (some ad)) (hl : (loadVar ty ad).run P w = .ok v w) :
 (results fn tmps).run P w = .ok v w := by
 unfold results
 rw [hr]
 simp only [List.mapM_toArray, List.mapM_cons, List.mapM_nil]
 simp [h0, asAddr, hl, Sem.run_bind, Result.andThen]
end
end
section
structure Enc (α : Type) where
 cells : α → List Value
 sz : Nat
 len : ∀ x, (cells x).length = sz
 one : ∀ x, ∀ u ∈ cells x, u.oneCell' = true
def Enc.row {α : Type} (E : Enc α) : List α → List Value
 | [] => []
 | x :: l => E.cells x ++ Enc.row E l
section
variable {α : Type} (E : Enc α)
theorem Enc.row_len : ∀ l : List α, (E.row l).length = l.length * E.sz
 | [] => by simp [Enc.row]
 | x :: l => by rw [Enc.row, List.length_append, E.len, Enc.row_len l, List.length_cons, Nat.add_mul]; omega
theorem Enc.row_append : ∀ l m : List α, E.row (l ++ m) = E.row l ++ E.row m
 | [], m => rfl
 | x :: l, m => by rw [List.cons_append, Enc.row, Enc.row_append l m, Enc.row, List.append_assoc]
theorem Enc.row_get : ∀ (l : List α) (i j : Nat) (hi : i < l.length), j < E.sz → (E.row l)[i * E.sz + j]? = (E.cells l[i])[j]?
 | x :: l, 0, j, hi, hj => by
   rw [Enc.row, Nat.zero_mul, Nat.zero_add, List.getElem?_append_left (by rw [E.len]; exact hj)]
   rfl
 | x :: l, i + 1, j, hi, hj => by
   have hi' : i < l.length := by simpa using hi
   rw [Enc.row, List.getElem?_append_right (by rw [E.len, Nat.add_mul]; omega), E.len, show (i + 1) * E.sz + j - E.sz = i * E.sz + j by rw [Nat.add_mul]; omega, Enc.row_get l i j hi' hj]
   rfl
def rowR (v : Value) (l : List α) : Res := winR E.sz v l.length (E.row l)
variable {E} {F : Nat → Prop} {w0 w : World} {L : List Res} {v : Value} {l : List α}
theorem Mem.nilRow (h : Mem F w0 w L) : Mem F w0 w (rowR E (.slice none 0 0) [] :: L) :=
 h.new (G := fun _ => False) (Keeps.refl _ _) ⟨fun k => ⟨fun h => h.elim, fun h => by cases h⟩, Win.nil w 0 E.sz⟩ (fun k h => h.elim)
theorem Mem.rowAdd {P : Program} (t tx ty e : TypeId) (i : TypeInfo) (z : Value) (bytes : Nat) (ht : P.underlying t = some (.slice e)) (htx : P.underlying tx = some (.slice e)) (hi : P.info? e = some i) (hz : i.zero = some z)
 (hsize : i.size = E.sz) (hby : i.bytes = bytes) (hzs : z.cells.size = E.sz) (h : Mem F w0 w (rowR E v l :: L)) (b c : Nat) (x : α) (hb : ∀ o, w.cell? ⟨b, o, none⟩ = (E.cells x)[o]?)
 (h63 : l.length + 1 ≤ maxLen) (hbytes : (l.length + 1) * bytes ≤ 140737488355328) :
 ∃ v' w', (Builtin.append_ #[t, tx] ty #[v, .slice (some ⟨b, 0, none⟩) 1 c]).run P w = .ok v' w' ∧ Mem F w0 w' (rowR E v' (l ++ [x]) :: L) := by
 have hsrc : SrcCells w (.slice (some ⟨b, 0, none⟩) 1 c) 1 (E.cells x) := .inr ⟨_, _, rfl, fun j u hu => by
  rw [← hu, ← hb j]
  by_cases hj : j = 0
  · subst hj; rfl
  · simp [Addr.add, hj]⟩
 obtain ⟨v', w', hr, hm⟩ := Mem.append t tx ty e i z E.sz bytes ht hi hz hsize hby hzs h (.slice (some ⟨b, 0, none⟩) 1 c) 1 (E.cells x) (hsrc.toSrc htx (by rw [E.len, Nat.one_mul]) (E.one x)) h63 hbytes
 refine ⟨v', w', hr, ?_⟩
 unfold rowR
 rw [E.row_append, List.length_append, show E.row [x] = E.cells x by rw [Enc.row, Enc.row, List.append_nil]]
 exact hm
theorem row_cells {A : Nat → Prop} (h : (rowR E v l).p A w) (hl : 0 < l.length) : ∃ g o cap, v = .slice (some ⟨g, o, none⟩) l.length cap ∧ l.length ≤ cap ∧ A g ∧ ∀ (i : Nat) (hi : i < l.length) (j : Nat), j < E.sz → w.cell? ⟨g, o + i * E.sz + j, none⟩ = (E.cells l[i])[j]? := by
 obtain ⟨h1, h2⟩ := h
 obtain ⟨g, o, cap, rfl, -, -, hc, hr⟩ := h2.form hl
 refine ⟨g, o, cap, rfl, hc, (h1 g).2 rfl, fun i hi j hj => ?_⟩
 have hj' : j < (E.cells l[i]).length := by rw [E.len]; exact hj
 have hg : (E.row l)[i * E.sz + j]? = some ((E.cells l[i])[j]) := by rw [E.row_get l i j hi hj, List.getElem?_eq_getElem hj']
 rw [Nat.add_assoc, hr _ _ hg, List.getElem?_eq_getElem hj']
theorem row_len {A : Nat → Prop} (h : (rowR E v l).p A w) : ∃ p c, v = .slice p l.length c := h.2.len
end
end
section
class Sz (w : World) (n : outParam Nat) : Prop where
 out : w.heap.size = n
instance (priority := low) szB (w : World) : Sz w w.heap.size := ⟨rfl⟩
instance szA (w : World) (o : Obj) (n : Nat) [h : Sz w n] : Sz (w.alloc o) (n + 1) := ⟨by rw [World.size_alloc, h.out]⟩
instance szS (w : World) (a : Addr) (v : Value) (n : Nat) [h : Sz w n] : Sz (w.setCell a v) n := ⟨by rw [World.size_setCell, h.out]⟩
instance szD (w : World) (n : Nat) [h : Sz w n] : Sz w.drew n := ⟨h.out⟩
class St' (cs : List Value) (o : Nat) (v : Value) (cs' : outParam (List Value)) : Prop where
 out : cs.set o v = cs'
instance (priority := low) stB (cs : List Value) (o : Nat) (v : Value) : St' cs o v (cs.set o v) := ⟨rfl⟩
instance st0 (a : Value) (l : List Value) (v : Value) : St' (a :: l) 0 v (v :: l) := ⟨rfl⟩
instance stS (a : Value) (l l' : List Value) (n : Nat) (v : Value) [h : St' l n v l'] : St' (a :: l) (n + 1) v (a :: l') := ⟨by rw [List.set_cons_succ, h.out]⟩
class PkB (L : List Res) (b : Nat) (t : outParam TypeId) (cs : outParam (List Value)) (L' : outParam (List Res)) : Prop where
 out : Pick L (cellsR b t cs) L'
instance (priority := high) pkb0 (b : Nat) (t : TypeId) (cs : List Value) (L : List Res) : PkB (cellsR b t cs :: L) b t cs L := ⟨.here⟩
instance pkbS (x : Res) (L L' : List Res) (b : Nat) (t : TypeId) (cs : List Value) [h : PkB L b t cs L'] : PkB (x :: L) b t cs (x :: L') := ⟨.there h.out⟩
class Pk (L : List Res) (r : Res) (L' : outParam (List Res)) : Prop where
 out : Pick L r L'
instance (priority := high) pk0 (r : Res) (L : List Res) : Pk (r :: L) r L := ⟨.here⟩
instance pkS (x r : Res) (L L' : List Res) [h : Pk L r L'] : Pk (x :: L) r (x :: L') := ⟨.there h.out⟩
class Wo (w : World) (L : List Res) (w' : World) (L' : outParam (List Res)) : Prop where
 out : ∀ F w0, Mem F w0 w L → Mem F w0 w' L'
instance (priority := high) wo0 (w : World) (L : List Res) : Wo w L w L := ⟨fun _ _ h => h⟩
instance woD (w : World) (L : List Res) (w' : World) (L' : List Res) [h : Wo w L w' L'] : Wo w L w'.drew L' := ⟨fun _ _ m => (h.out _ _ m).drew⟩
instance woA (w : World) (L : List Res) (w' : World) (L' : List Res) (cs : List Value) (t : TypeId) (n : Nat) [h : Wo w L w' L'] [s : Sz w' n] : Wo w L (w'.alloc (.cells cs.toArray t)) (cellsR n t cs :: L') := ⟨fun _ _ m => (h.out _ _ m).alloc s.out⟩
instance (priority := low) woO (w : World) (L : List Res) (w' : World) (L' : List Res) (o : Obj) [h : Wo w L w' L'] : Wo w L (w'.alloc o) L' := ⟨fun _ _ m => (h.out _ _ m).allocO⟩
instance woS (w : World) (L : List Res) (w' : World) (L1 L2 : List Res) (b o : Nat) (v : Value) (t : TypeId) (cs cs' : List Value) [h : Wo w L w' L1] [p : PkB L1 b t cs L2] [s : St' cs o v cs'] : Wo w L (w'.setCell ⟨b, o, none⟩ v) (cellsR b t cs' :: L2) :=
 ⟨fun _ _ m => by rw [← s.out]; exact (h.out _ _ m).set p.out⟩
class Ap (b : Nat) (L : List Res) (p : outParam Prop) : Prop where
 out : ∀ w G, SepL L G w → ¬ G b → p
instance ap0 (b : Nat) : Ap b [] True := ⟨fun _ _ _ _ => trivial⟩
instance apC (b c : Nat) (t : TypeId) (cs : List Value) (L : List Res) (p : Prop) [h : Ap b L p] : Ap b (cellsR c t cs :: L) (¬ b = c ∧ ¬ c = b ∧ p) :=
 ⟨fun w G ⟨A, B, h1, h2, h3, h4⟩ hG => ⟨fun e => hG ((h4 b).2 (.inl ((h1.1 b).2 e))), fun e => hG ((h4 b).2 (.inl ((h1.1 b).2 e.symm))), h.out w B h2 fun hB => hG ((h4 b).2 (.inr hB))⟩⟩
instance (priority := low) apR (b : Nat) (r : Res) (L : List Res) (p : Prop) [h : Ap b L p] : Ap b (r :: L) p :=
 ⟨fun w G ⟨A, B, h1, h2, h3, h4⟩ hG => h.out w B h2 fun hB => hG ((h4 b).2 (.inr hB))⟩
class Fa (w : World) (L : List Res) (p : outParam Prop) : Prop where
 out : ∀ G, SepL L G w → p
instance fa0 (w : World) : Fa w [] True := ⟨fun _ _ => trivial⟩
instance faC (w : World) (b : Nat) (t : TypeId) (cs : List Value) (L : List Res) (q p : Prop) [h : Ap b L q] [g : Fa w L p] :
 Fa w (cellsR b t cs :: L) ((∀ o, w.cell? ⟨b, o, none⟩ = cs[o]?) ∧ (∀ o, w.frozen? ⟨b, o, none⟩ = false) ∧ b < w.heap.size ∧ q ∧ p) :=
 ⟨fun G ⟨A, B, h1, h2, h3, h4⟩ => ⟨h1.2.reads.1, h1.2.reads.2, h1.2.lt, h.out w B h2 (h3 b ((h1.1 b).2 rfl)), g.out B h2⟩⟩
instance (priority := low) faR (w : World) (r : Res) (L : List Res) (p : Prop) [g : Fa w L p] : Fa w (r :: L) p := ⟨fun G ⟨A, B, h1, h2, h3, h4⟩ => g.out B h2⟩
class Gl (p : Prop) (G : outParam (World → Prop)) (w : outParam World) : Prop where
 out : G w → p
instance gl1 (P : Program) (f : FuncId) (args : Array Value) (K : Ending → World → Prop) (w : World) : Gl (Calls P f args w K) (fun w => Calls P f args w K) w := ⟨id⟩
instance gl2 (P : Program) (ops : Array Oper) (Q : Exit → Act → World → Prop) (l : List Oper) (a : Act) (w : World) : Gl (Stopped (wpList P ops Q l a w)) (fun w => Stopped (wpList P ops Q l a w)) w := ⟨id⟩
instance gl3 (P : Program) (ops : Array Oper) (Q : Exit → Act → World → Prop) (l : List Oper) (a : Act) (w : World) : Gl (wpList P ops Q l a w) (fun w => wpList P ops Q l a w) w := ⟨id⟩
instance gl4 (P : Program) (c : Code) (Q : Exit → Act → World → Prop) (a : Act) (w : World) : Gl (c.wp P Q a w) (fun w => c.wp P Q a w) w := ⟨id⟩
instance gl5 (P : Program) (fn : Func) (R : Ending → World → Prop) (e : Exit) (a : Act) (w : World) : Gl (bodyPostD P fn R e a w) (fun w => bodyPostD P fn R e a w) w := ⟨id⟩
instance gl6 (P : Program) (fn : Func) (R : Ending → World → Prop) (e : Exit) (a : Act) (w : World) : Gl (bodyPost P fn R e a w) (fun w => bodyPost P fn R e a w) w := ⟨id⟩
instance gl7 (F : Nat → Prop) (w0 : World) (r : Res) (w : World) : Gl (Upd F w0 w r) (fun w => Upd F w0 w r) w := ⟨id⟩
instance gl8 (P : Program) (c : Code) (Q : Exit → Act → World → Prop) (n : Nat) (a : Act) (w : World) : Gl (Code.rounds P c Q n a w) (fun w => Code.rounds P c Q n a w) w := ⟨id⟩
section
variable {F : Nat → Prop} {w0 w w' w1 : World} {L L' L1 L2 : List Res} {p : Prop}
theorem Mem.to (m : Mem F w0 w L) [h : Wo w L w' L'] : Mem F w0 w' L' := h.out _ _ m
theorem Mem.fa (m : Mem F w0 w L) [h : Fa w L p] : p := let ⟨_, G, s, _⟩ := m; h.out G s
theorem nxt {G : World → Prop} [g : Gl p G w'] (m : Hid (Mem F w0 w L)) [h : Wo w L w' L'] (k : ∀ w, Hid (Mem F w0 w L') → G w) : p := g.out (k _ (Lib.hid m.out.to))
end
class Wd (n : Nat) (cs : List Value) : Prop where
 len : cs.length = n
 one : ∀ u ∈ cs, u.oneCell' = true
class One (v : Value) : Prop where
 out : v.oneCell' = true
instance oneI (k : IntKind) (n : Int) : One (.int k n) := ⟨rfl⟩
instance oneB (b : Bool) : One (.bool b) := ⟨rfl⟩
instance oneT (s : ByteArray) : One (.string s) := ⟨rfl⟩
instance oneP (a : Option Addr) : One (.pointer a) := ⟨rfl⟩
instance oneL (a : Option Addr) (n c : Nat) : One (.slice a n c) := ⟨rfl⟩
instance oneM (m : Option Nat) : One (.map m) := ⟨rfl⟩
instance wdS (n : Nat) (cs : List Value) (i : Nat) (v : Value) [h : Wd n cs] [g : One v] : Wd n (cs.set i v) := ⟨by rw [List.length_set, h.len], one_set h.one g.out i⟩
section
variable {P : Program} {ops : Array Oper} {rest : List Oper} {o : Oper} {a : Act} {w w0 w1 : World} {Q : Exit → Act → World → Prop} {F : Nat → Prop} {L L1 L2 : List Res} {d : TypeDesc} {b n : Nat} {t : TypeId} {cs vs : List Value}
theorem lvW (ty : TypeId) (m : Mem F w0 w1 L) [Wo w1 L w L1] [p : PkB L1 b t cs L2] (hu : P.underlying ty = some d) (hd : (match d with | .struct _ | .array _ _ => true | _ => false) = true) (hi : (P.info? ty).map (·.size) = some n) [q : Wd n cs] :
 (loadVar ty ⟨b, 0, none⟩).run P w = .ok (.agg cs.toArray) w := loadVar_wide ty (m.to (w' := w)) p.out hu hd (hi.trans (congrArg some q.len.symm))
theorem elW (ty : TypeId) (x : Operand) (ho : o.op = .load ty x) (hx : a.eval x = .pointer (some ⟨b, 0, none⟩)) (m : Mem F w0 w1 L) [Wo w1 L w L1] [p : PkB L1 b t cs L2] (hu : P.underlying ty = some d) (hd : (match d with | .struct _ | .array _ _ => true | _ => false) = true) (hi : (P.info? ty).map (·.size) = some n) [q : Wd n cs] :
 (execOp a.eval o).run P w = .ok (.value (.agg cs.toArray)) w := by
 have := lvW (w := w) (b := b) (t := t) (cs := cs) (L1 := L1) (L2 := L2) ty m hu hd hi
 simp [execOp, ho, hx, Instr.loadAt, Instr.sureAddr, Sem.run_bind, Result.andThen, this]
theorem ldW (ty : TypeId) (x : Operand) (ho : o.op = .load ty x) (hw : Region.wanted o (yielded ops a.tmps) = true) (hx : a.eval x = .pointer (some ⟨b, 0, none⟩)) (m : Mem F w0 w1 L) [Wo w1 L w L1] [p : PkB L1 b t cs L2] (hu : P.underlying ty = some d)
 (hd : (match d with | .struct _ | .array _ _ => true | _ => false) = true) (hi : (P.info? ty).map (·.size) = some n) [q : Wd n cs] (k : wpList P ops Q rest (a.put o.dst (.agg cs.toArray)) w) : wpList P ops Q (o :: rest) a w := by
 have h2 := elW (w := w) ty x ho hx m hu hd hi
 unfold wpList
 rw [if_pos hw]
 refine .inl ?_
 unfold Oper.wp
 rw [h2]
 exact k
theorem stW (ty : TypeId) (x y : Operand) (ho : o.op = .store ty x y) (hg : o.guard = none) (hx : a.eval x = .pointer (some ⟨b, 0, none⟩)) (hy : a.eval y = .agg vs.toArray) (m : Mem F w0 w1 L) [Wo w1 L w L1] [p : PkB L1 b t cs L2] (hi : (P.info? ty).map (·.size) = some n)
 [q : Wd n cs] [g : Wd n vs] (k : ∀ w', Mem F w0 w' (cellsR b t vs :: L2) → wpList P ops Q rest (a.put o.dst undef) w') : wpList P ops Q (o :: rest) a w :=
 mem_store_wide ty x y ho hg hx hy (m.to (w' := w)) p.out hi g.len q.len g.one k
theorem boW (ty : TypeId) (x : Operand) (ho : o.op = .box ty x) (hg : o.guard = none) (hx : a.eval x = .agg vs.toArray) (m : Mem F w0 w1 L) [Wo w1 L w L1]
 (k : ∀ w' n, Mem F w0 w' (cellsR n ty vs :: L1) → wpList P ops Q rest (a.put o.dst (.pointer (some ⟨n, 0, none⟩))) w') : wpList P ops Q (o :: rest) a w := mem_box_wide ty x ho hg hx (m.to (w' := w)) k
theorem alW (ty : TypeId) (ho : o.op = .alloc ty) (hg : o.guard = none) (hz : (zeroValue ty).run P w = .ok (.agg vs.toArray) w) (m : Mem F w0 w1 L) [Wo w1 L w L1]
 (k : ∀ w' n, Mem F w0 w' (cellsR n ty vs :: L1) → wpList P ops Q rest (a.put o.dst (.pointer (some ⟨n, 0, none⟩))) w') : wpList P ops Q (o :: rest) a w := mem_alloc_wide ty ho hg hz (m.to (w' := w)) k
variable {C : World → Prop} {tail : Act → World → Prop} {r : List (Nat × Oper)} {v : Value}
theorem pM (x : Operand) (hw : Region.wanted o (yielded ops a.tmps) = true) (h : o.op = .move x) (k : Pl P ops Q C tail r (a.put o.dst (a.eval x)) w) : Pl P ops Q C tail ((0, o) :: r) a w := plan_pure hw fun K hK => quiet_move' x h (hK _ k)
theorem pA (x : Operand) (hw : Region.wanted o (yielded ops a.tmps) = true) (h : o.op = .assign x) (k : Pl P ops Q C tail r (a.put o.dst (a.eval x)) w) : Pl P ops Q C tail ((0, o) :: r) a w := plan_pure hw fun K hK => quiet_assign' x h (hK _ k)
theorem pR (hw : Region.wanted o (yielded ops a.tmps) = true) (h : ∀ w, (execOp a.eval o).run P w = .ok (.value v) w) (k : Pl P ops Q C tail r (a.put o.dst v) w) : Pl P ops Q C tail ((0, o) :: r) a w := plan_pure hw fun K hK => quiet_run v (fun w _ => h w) (hK _ k)
theorem pX (hw : Region.wanted o (yielded ops a.tmps) = true) (h : (execOp a.eval o).run P w = .ok (.value v) w) (k : Pl P ops Q C tail r (a.put o.dst v) w) : Pl P ops Q C tail ((3, o) :: r) a w := plan_exact hw fun K hK => quiet_runX v h (hK _ k)
theorem pL {wr : World} (hw : Region.wanted o (yielded ops a.tmps) = true) (h : ∀ y : ExtW wr, (execOp a.eval o).run P y.w = .ok (.value v) y.w) (k : Pl P ops Q (ClsE wr) tail r (a.put o.dst v) w) : Pl P ops Q (ClsE wr) tail ((1, o) :: r) a w := plan_load hw fun K hK => quiet_runE v h (hK _ k)
theorem pK {wr : World} {S : Nat → Prop} (hw : Region.wanted o (yielded ops a.tmps) = true) (h : ∀ y : KeepsW S wr, (execOp a.eval o).run P y.w = .ok (.value v) y.w) (k : Pl P ops Q (ClsK S wr) tail r (a.put o.dst v) w) : Pl P ops Q (ClsK S wr) tail ((1, o) :: r) a w := plan_load hw fun K hK => quiet_runK v h (hK _ k)
theorem pXW (ty : TypeId) (x : Operand) (hw : Region.wanted o (yielded ops a.tmps) = true) (ho : o.op = .load ty x) (hx : a.eval x = .pointer (some ⟨b, 0, none⟩)) (m : Mem F w0 w1 L) [Wo w1 L w L1] [p : PkB L1 b t cs L2] (hu : P.underlying ty = some d)
 (hd : (match d with | .struct _ | .array _ _ => true | _ => false) = true) (hi : (P.info? ty).map (·.size) = some n) [q : Wd n cs] (k : Pl P ops Q C tail r (a.put o.dst (.agg cs.toArray)) w) : Pl P ops Q C tail ((3, o) :: r) a w := pX hw (elW ty x ho hx m hu hd hi) k
end
theorem nL : (∀ (l : List Oper) (i : Nat), l.toArray[i]? = l[i]?) ∧ (∀ (a : Oper) (l : List Oper), (a :: l)[0]? = some a) ∧ (∀ (a : Oper) (l : List Oper) (n : Nat), (a :: l)[n + 1]? = l[n]?) := ⟨fun _ _ => by simp, fun _ _ => rfl, fun _ _ _ => rfl⟩
end
section
theorem osW {P : Program} {o : Oper} {a : Act} {w w0 w1 wr : World} {Q : Exit → Act → World → Prop} {F S : Nat → Prop} {L L1 L2 : List Res} {b n : Nat} {t : TypeId} {cs vs : List Value} {K : Act → World → Prop} (ty : TypeId) (x y : Operand) (ho : o.op = .store ty x y)
 (hx : a.eval x = .pointer (some ⟨b, 0, none⟩)) (hy : a.eval y = .agg vs.toArray) (m : Mem F w0 w1 L) [Wo w1 L w L1] [p : PkB L1 b t cs L2] (hi : (P.info? ty).map (·.size) = some n) [q : Wd n cs] [g : Wd n vs] (he : Keeps S wr w) (hb : S b)
 (k : ∀ w', Mem F w0 w' (cellsR b t vs :: L2) → Keeps S wr w' → K (a.put o.dst undef) w') : Oper.wp P o a w K Q := by
 obtain ⟨A, hA, hS⟩ := ((m.to (w' := w)).pick p.out).step
 obtain ⟨i, hi', hin⟩ : ∃ i, P.info? ty = some i ∧ i.size = n := by
  cases h : P.info? ty with
  | none => rw [h] at hi; cases hi
  | some i => rw [h] at hi; exact ⟨i, rfl, by simpa using hi⟩
 subst hin
 have hbx : Box w b t cs := hA.2
 have hr := Lib.rl_storeVar_cells (P := P) ty i hi' b 0 vs g.len g.one w (fun k hk => by
  have := q.len; have := g.len; rw [hbx.reads.1, List.getElem?_eq_getElem (by omega)]; rfl) (fun k hk => by rw [hbx.reads.2])
 have hk : Keeps (OneB b) w (w.setCells b 0 vs) := (Keeps.refl _ _).setCells b 0 vs (.inl rfl)
 have hrun : (execOp a.eval o).run P w = .ok .skip (w.setCells b 0 vs) := by simp [execOp, ho, hx, hy, Instr.storeAt, Instr.sureAddr, Result.andThen, hr]
 unfold Oper.wp
 rw [hrun]
 exact k _ (hS (cellsR b t vs) _ ⟨A, ⟨hA.1, Box.setAll vs cs [] w hbx (by rw [q.len, g.len])⟩, hk.mono fun k _ h => (hA.1 k).2 h, fun k hk => .inl hk⟩) (he.trans (hk.mono fun k _ h => by rw [show k = b from h]; exact hb))
theorem elB {P : Program} {o : Oper} {a : Act} {w : World} {d : TypeDesc} {b n : Nat} {t : TypeId} {cs : List Value} (ty : TypeId) (x : Operand) (ho : o.op = .load ty x) (hx : a.eval x = .pointer (some ⟨b, 0, none⟩)) (hb : Box w b t cs) (hu : P.underlying ty = some d) (hd : (match d with | .struct _ | .array _ _ => true | _ => false) = true)
 (hi : (P.info? ty).map (·.size) = some n) [q : Wd n cs] : (execOp a.eval o).run P w = .ok (.value (.agg cs.toArray)) w := by
 have h1 : (loadVar ty ⟨b, 0, none⟩).run P w = .ok (.agg cs.toArray) w := run_loadVar_row w b t ty cs.toArray (0, 0) d hb hu hd (by rw [hi]; simp [q.len])
 simp [execOp, ho, hx, Instr.loadAt, Instr.sureAddr, Sem.run_bind, Result.andThen, h1]
theorem Mem.ne {F : Nat → Prop} {w0 w : World} {L L1 L2 : List Res} {a b : Nat} {t u : TypeId} {cs ds : List Value} (h : Mem F w0 w L) (p : Pick L (cellsR a t cs) L1) (q : Pick L1 (cellsR b u ds) L2) : b ≠ a := by
 obtain ⟨_, G, s, _⟩ := h.pick p
 obtain ⟨A, B, h1, h2, h3, _⟩ := s
 obtain ⟨C, D, h4, _, _, h5⟩ := q.sep h2
 intro e
 exact h3 b ((h1.1 b).2 e) ((h5 b).2 (.inl ((h4.1 b).2 rfl)))
end
section
section
variable {P : Program} {w : World}
theorem part_agg {e : TypeId} {k : TypeDesc} {n off : Nat} {cs : List Value} (hu : P.underlying e = some k) (hk : (match k with | .struct _ | .array _ _ => true | _ => false) = true) (hn : P.cellsOf e = n) (W : World) :
 (part e cs.toArray off).run P W = .ok (.agg ((cs.drop off).take n).toArray) W := by
 obtain ⟨i, hi⟩ := info_of_underlying hu
 have hl : cs.toArray.extract off (off + n) = ((cs.drop off).take n).toArray := by
  apply Array.ext'
  rw [Array.toList_extract]
  simp [List.extract]
 cases k <;> simp_all [part, isAgg, run_underlying hu, run_sizeOf W hi]
theorem eql_of {t : TypeId} {xs ys : Array Value} {b : Bool} (h : (Op.equalIn 10000 t (.agg xs) (.agg ys)).run P w = .ok b w) : (binOp .eql t (.agg xs) (.agg ys)).run P w = .ok (.bool b) w := by
 rw [run_eql_struct, h]; rfl
theorem neq_of {t : TypeId} {xs ys : Array Value} {b : Bool} (h : (Op.equalIn 10000 t (.agg xs) (.agg ys)).run P w = .ok b w) : (binOp .neq t (.agg xs) (.agg ys)).run P w = .ok (.bool (!b)) w := by
 rw [run_neq_struct, h]; rfl
end
end
section
theorem infoU8 : (Tryz.prog.info? 5).map (fun i => (i.zero, i.size, i.bytes)) = some (some (.int .u8 0), 1, 1) := by kernel_rfl
theorem run_append_zeros {P : Program} (w : World) (t ti ty e : TypeId) (i : TypeInfo) (z : Value) (ht : P.underlying t = some (.slice e)) (hti : P.underlying ti = some (.int .i64)) (hi : P.info? e = some i) (hz : i.zero = some z)
 (hsize : i.size = 1) (hzs : z.cells.size = 1) (hby : i.bytes = 1) (n : Nat) (h0 : 0 < n) (hn : n ≤ 70368744177664) :
 ∃ cap w', (Builtin.append_ #[t, ti] ty #[.slice none 0 0, .int .i64 (n : Int)]).run P w = .ok (.slice (some ⟨w.heap.size, 0, none⟩) n cap) w' ∧
   w'.ownsRow w.heap.size e 1 (.slice (some ⟨w.heap.size, 0, none⟩) 0 cap) 0 [] ∧ w.grownBy w' none ∧ 0 < cap := by
 have hw : IntKind.i64.wrap (n : Int) = n := IntWalk.i64_in _ (by omega)
 have n1 : ¬ ((n : Int) < 0) := by omega
 have n2 : ¬ ((n : Int) * 1 > 2 ^ 48) := by omega
 have n2' : ¬ (281474976710656 < (n : Int)) := by omega
 have n3 : ¬ (9223372036854775807 < (n : Int)) := by omega
 have h48' : ¬ (281474976710656 < Builtin.nextslicecap n 0) := by rw [nextslicecap_zero h0]; omega
 have hnz : n ≠ 0 := by omega
 have hge := grownCap_ge w n 0 e
 refine ⟨grownCap w n 0 e, w.drew.alloc (.cells (Builtin.zeroCells z.cells n ++ Builtin.zeroCells z.cells (grownCap w n 0 e - n)) e), ?_, ?_, ⟨rfl, rfl, rfl, by simp, fun k hk _ => Below.heap_alloc w.drew _ k hk⟩, by omega⟩
 · simp [Builtin.append_, run_underlying ht, run_underlying hti, sizeOf, typeInfo, zeroValue, hi, hz, hw, asInt, asIntOf, n1, n2', n3, hby, hsize, h48', hnz, Builtin.firstCells, Question.forced, newRow, grownCap]
 · refine World.ownsRow_made w.drew _ _ (Nat.le_refl _) (grownCap_le_maxLen w n 0 e (by simp [maxLen]; omega)) ?_
   simp [size_zeroCells, hzs]; omega
end
section
theorem Bytes.str {w : World} {A : Nat → Prop} {v : Value} {l : List UInt8} (h : Bytes w A v l) :
 (convert 27 9 v).run Tryz.prog w = .ok (.string (bs l)) w := by
 rcases h with ⟨a, rfl, rfl⟩ | ⟨b, o, c, rfl, h1, h2, h3⟩
 · cases a with
   | some ad => exact run_convert_bytes_back w 27 9 5 ad 0 [] Tryz.underlying27 Tryz.underlying5 Tryz.underlying9 fun j hj => by simp at hj
   | none =>
   rw [run_convert_bytes_string w 27 9 5 none 0 0 Tryz.underlying27 Tryz.underlying5 Tryz.underlying9]
   rfl
 · refine run_convert_bytes_back w 27 9 5 ⟨b, o, none⟩ c l Tryz.underlying27 Tryz.underlying5 Tryz.underlying9 fun j hj => ?_
   have := h3 j hj
   unfold ByteAt byV at this
   by_cases hj0 : j = 0
   · subst hj0; simpa [Addr.add] using this
   · simpa [Addr.add, hj0] using this
theorem conv_bytes (w : World) (l : List UInt8) :
 ∃ v' w', (convert 9 27 (.string (bs l))).run Tryz.prog w = .ok v' w' ∧ Bytes w' (fun k => w.heap.size ≤ k ∧ k < w'.heap.size) v' l ∧ Ext w w' ∧ w'.heap.size = w.heap.size + 1 := by
 have hr := Lib.run_convert_string_bytes (P := Tryz.prog) w 9 27 5 (bs l) (u := .string) Tryz.underlying9 Tryz.underlying27 Tryz.underlying5
 rw [bs_size] at hr
 have hsz := Lib.bytesWorld_size w 5 (bs l)
 refine ⟨_, _, hr, .inr ⟨w.heap.size, 0, _, rfl, by have := grownCap_ge w l.length 0 5; omega, ⟨Nat.le_refl _, by omega⟩, fun i hi => ?_⟩, ⟨?_, ?_, ?_, by omega, fun k hk _ => Lib.bytesWorld_at_old w _ _ k hk⟩, hsz⟩
 · have := Lib.bytesWorld_cell w 5 (bs l) i (by rw [bs_size]; exact hi)
   rw [bs_data] at this
   unfold ByteAt byV
   simpa [List.getD, hi] using this
 all_goals simp [Lib.bytesWorld, World.freeze, World.alloc, World.drew, -World.alloc_eq, -World.drew_eq]
theorem make_bytes (w : World) (n : Nat) (hn : n ≤ 70368744177664) (z : Int) (hz : z = n) :
 ∃ w', (Instr.makeSlice 27 (.int .i64 z) (.int .i64 z)).run Tryz.prog w = .ok (.slice (some ⟨w.heap.size, 0, none⟩) n n) w' ∧ Box w' w.heap.size 5 ((List.replicate n (0 : UInt8)).map byV) ∧ Ext w w' ∧ w'.heap.size = w.heap.size + 1 := by
 subst hz
 obtain ⟨i0, hi, hz0, hz1, hz2⟩ := info_parts infoU8
 have h := run_make (P := Tryz.prog) w 27 5 i0 (.int .u8 0) Tryz.underlying27 hi hz0 .i64 .i64 (n : Int) (n : Int) (by omega) (Int.le_refl _) (by rw [hz2]; omega) (by omega)
 simp only [Int.toNat_natCast, hz1] at h
 refine ⟨_, h, ?_, (Keeps.refl _ _).alloc _, by simp⟩
 unfold Box
 rw [World.alloc_heap_new]
 congr 2
 simp only [madeCells, byV, Value.cells, List.size_toArray, List.length_cons, List.length_nil, Nat.mul_one, List.map_replicate]
 apply Array.ext
 · simp
 · intro i h1 h2
   simp [Nat.mod_one]
end
section
theorem append_bytes {A : Nat → Prop} (w : World) (base : Nat) (v : Value) (cs : List UInt8) (ty : TypeId) (hw : Win w base 1 v cs.length (cs.map byV)) (x : Value) (l : List UInt8) (hx : Bytes w A x l) (hl : cs.length + l.length ≤ 70368744177664) (hb : base ≤ w.heap.size) :
 ∃ v' w', (Builtin.append_ #[27, 27] ty #[v, x]).run Tryz.prog w = .ok v' w' ∧ Win w' base 1 v' (cs ++ l).length ((cs ++ l).map byV) ∧ Keeps (Own v) w w' ∧ (v'.ownBlock = v.ownBlock ∨ v'.ownBlock = some w.heap.size) := by
 obtain ⟨i0, hi, hz0, hz1, hz2⟩ := info_parts infoU8
 obtain ⟨v', w', h1, h2, h3, h4⟩ := run_append_win (P := Tryz.prog) w base 27 27 ty 5 i0 _ 1 1 Tryz.underlying27 hi hz0 hz1 hz2 rfl v cs.length (cs.map byV) hw
  x l.length (l.map byV) (hx.src.toSrc Tryz.underlying27 (by simp) (byV_one l)) (by simp [maxLen]; omega) (by omega) hb
 exact ⟨v', w', h1, by rw [List.length_append, List.map_append]; exact h2, h3, h4⟩
theorem byV_flat (l : List UInt8) : l.map byV = (l.map fun x => [byV x]).flatten := by
 induction l with
 | nil => rfl
 | cons x l ih => simp [ih]
theorem Bytes.of_win {w : World} {base n : Nat} {v : Value} {l : List UInt8} (h : Win w base 1 v n (l.map byV)) : Bytes w (fun b => base ≤ b ∧ b < w.heap.size) v l := by
 have hn : l.length = n := by have := h.1; simpa using this
 refine SlV.of_win (En := fun c (x : UInt8) => c = [byV x]) h hn.symm ⟨l.map fun x => [byV x], byV_flat l, by simp, fun j hj hj' => by simp⟩ ?_
 intro b o c x hc _ hx
 subst hc
 exact hx 0 (by decide)
def WrN (w : World) (v : Value) : Prop := ∀ b o n c, v = .slice (some ⟨b, o, none⟩) n c → ∀ i, i < n → w.frozen? ⟨b, o + i, none⟩ = false
theorem WrN.of_win {w : World} {base n : Nat} {v : Value} {l : List UInt8} (h : Win w base 1 v n (l.map byV)) : WrN w v := by
 rintro b o m c rfl i hi
 obtain ⟨h0, ⟨h, _⟩ | ⟨g', o', cap', h, h1, h2, h3, h4, h5, h6⟩⟩ := h
 · cases h
 · cases h
   exact (h5 i (by omega)).2
theorem WrN.set {w : World} {v : Value} (h : WrN w v) (p : Addr) (u : Value) : WrN (w.setCell p u) v := by
 intro b o n c hv i hi
 have := h b o n c hv i hi
 rw [← this]
 simp [go_sem]
theorem WrN.keeps {w w' : World} {A S : Nat → Prop} {v : Value} {l : List UInt8} (hb : Bytes w A v l) (h : WrN w v) (hk : Keeps S w w') (hA : ∀ k, A k → ¬ S k ∧ k < w.heap.size) : WrN w' v := by
 rintro b o n c rfl i hi
 rcases hb with ⟨a', h1, h2⟩ | ⟨b', o', c', h1, h2, h3, h4⟩
 · cases h1; simp at hi
 · cases h1
   rw [hk.frozen (hA _ h3).1 (hA _ h3).2]
   exact h _ _ _ _ rfl i hi
theorem own_eq {g o n c k : Nat} (h : Own (.slice (some ⟨g, o, none⟩) n c) k) : k = g := by unfold Own at h; cases h; rfl
theorem RowOf.set {α : Type} {sz : Nat} {En : List Value → α → Prop} {cs c : List Value} {l : List α} {x : α} (h : RowOf sz En cs l) (hx : En c x) (hc : c.length = sz) (i : Nat) (hi : i < l.length) :
 RowOf sz En (cs.take (i * sz) ++ (c ++ cs.drop ((i + 1) * sz))) (l.set i x) := by
 rw [List.set_eq_take_append_cons_drop, if_pos hi]
 exact RowOf.append (h.take i (by omega)) (RowOf.append (l := [x]) (RowOf.one hx hc) (h.drop (i + 1) (by omega)))
theorem Win.set {w : World} {base sz n cap o g : Nat} {cs c : List Value} (h : Win w base sz (.slice (some ⟨g, o, none⟩) n cap) n cs) (i : Nat) (hi : i < n) (hc : c.length = sz) :
 Win (w.setCells g (o + i * sz) c) base sz (.slice (some ⟨g, o, none⟩) n cap) n (cs.take (i * sz) ++ (c ++ cs.drop ((i + 1) * sz))) := by
 obtain ⟨h0, ⟨h, h'⟩ | ⟨g', o', cap', h, h1, h2, h3, h4, h5, h6⟩⟩ := h
 · omega
 · cases h
   have e1 : (i + 1) * sz = i * sz + sz := by rw [Nat.add_mul]; omega
   have e2 : (i + 1) * sz ≤ n * sz := Nat.mul_le_mul_right _ hi
   have e3 : n * sz ≤ cap * sz := Nat.mul_le_mul_right _ h2
   have hth : w.there g (o + i * sz) c.length := fun j hj => by
    have := h5 (i * sz + j) (by omega)
    rwa [← Nat.add_assoc] at this
   have hlt : (cs.take (i * sz)).length = i * sz := by rw [List.length_take]; omega
   refine ⟨by simp only [List.length_append, hlt, List.length_drop]; omega, .inr ⟨g, o, cap, rfl, h1, h2, h3, by rw [(heap_block_setCells g c _ w).1]; exact h4, World.there_setCells h5 _ _ _, ?_⟩⟩
   refine rangeAt_append ?_ (rangeAt_append ?_ ?_)
   · refine World.rangeAt_setCells_apart (fun j u hu => h6 j u ?_) g _ c (.inr (.inl (by rw [hlt]; omega)))
     rw [List.getElem?_take] at hu
     split at hu
     · exact hu
     · cases hu
   · rw [hlt]; exact World.rangeAt_setCells_same w g _ c hth
   · rw [hlt, hc]
     refine World.rangeAt_setCells_apart (fun j u hu => ?_) g _ c (.inr (.inr (by omega)))
     rw [List.getElem?_drop] at hu
     have := h6 _ u hu
     rwa [show o + i * sz + sz + j = o + ((i + 1) * sz + j) by omega]
theorem Wr.set {w : World} {v : Value} (h : Wr w v) (p : Addr) (u : Value) : Wr (w.setCell p u) v := by
 intro b o n c hv i
 have := h b o n c hv i
 rw [← this]
 simp [go_sem]
theorem Wr.keeps {w w' : World} {A S : Nat → Prop} {a : Option Addr} {c : Nat} {l : List UInt8} (hb : Bytes w A (.slice a l.length c) l) (h : Wr w (.slice a l.length c)) (hk : Keeps S w w') (hA : ∀ k, A k → ¬ S k ∧ k < w.heap.size) (hl : 0 < l.length) : Wr w' (.slice a l.length c) := by
 rcases hb with ⟨a', h1, h2⟩ | ⟨b, o', c', h1, h2, h3, h4⟩
 · subst h2; simp at hl
 · cases h1
   rintro b' o'' n'' c'' hv i
   cases hv
   rw [hk.frozen (hA _ h3).1 (hA _ h3).2]
   exact h _ _ _ _ rfl i
end
end Go.Proofs.YtoadjbgpfihoiaaGreatDoor
