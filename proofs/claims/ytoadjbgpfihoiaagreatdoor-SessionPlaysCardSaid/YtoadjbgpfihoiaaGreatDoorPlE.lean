/- Texts OpenS, RowsS, StopS, Sep, UpdP, Wide, SepB, Row, Laid, one behind the other. Conditions: as each says. -/
import Derived.Test.YtoadjbgpfihoiaaGreatDoorPlA
import Derived.Deep.Slices
import Derived.Carry
import Derived.Defers
import Derived.Laws.Rows
import Derived.Lib.ReflectliteSwap
import Derived.Test.YtoadjbgpfihoiaaGreatDoorCards
import Derived.Test.YtoadjbgpfihoiaaGreatDoorTie
import Derived.SevenTiedAt
import Derived.LaidLaws
import Derived.LaidHandle
import Derived.Lib.LaidIn
import Derived.Lib.LaidU8T
import Derived.PinnedBridge
import Derived.Deep.DeepHandedRow
import Derived.Deep.DeepWitnessRowRef
import Derived.JoinedOf
set_option linter.unusedVariables false
set_option linter.unusedSimpArgs false
set_option maxHeartbeats 8000000
set_option maxRecDepth 100000
namespace Go.Proofs.YtoadjbgpfihoiaaGreatDoor
open Go.RowKit
section
open Go.RowKit Go.ChangeShapes Go.WideShapes
def Old (w : World) : Nat → Prop := fun k => k < w.heap.size
def Rd {H : Type} (enc : TypeId × Value → H) (P : Program) (w : World) (t : TypeId) {α : Type} (En : List Value → α → Prop) : Prop :=
 ∀ (fuel : Nat) (cs : List Value) (x : DataW H × List MemPlace), DataW.trod enc P w 0 (fun _ => true) true fuel t cs = some x → ∃ a : α, En cs a
section
variable {H : Type} {enc : TypeId × Value → H} {P : Program} {w : World}
theorem rd_int {t : TypeId} {k : IntKind} (ht : P.underlying t = some (.int k)) : Rd enc P w t fun cs (n : Int) => cs = [.int k n] ∧ (Lit.int k n).wf = true := fun fuel cs x h =>
 let ⟨n, h1, _, h2⟩ := DataW.trod_int ht h
 ⟨n, h1, h2⟩
theorem rd_bool {t : TypeId} (ht : P.underlying t = some .bool) : Rd enc P w t fun cs (b : Bool) => cs = [.bool b] := fun fuel cs x h =>
 let ⟨n, h1, _⟩ := DataW.trod_bool ht h
 ⟨n, h1⟩
theorem rd_string {t : TypeId} (ht : P.underlying t = some .string) : Rd enc P w t fun cs (l : List UInt8) => cs = [.string (bs l)] ∧ l.length ≤ 9223372036854775807 := fun fuel cs x h => by
 obtain ⟨s, h1, _, h2⟩ := DataW.trod_string ht h; refine ⟨s.data.toList, by rw [h1, bs_of], ?_⟩; simp only [maxLen] at h2; simpa using h2
theorem list_of_each {α : Type} {p : Nat → α → Prop} : ∀ n, (∀ i, i < n → ∃ a, p i a) → ∃ l : List α, l.length = n ∧ ∀ i (h : i < l.length), p i l[i]
 | 0, _ => ⟨[], rfl, fun i h => by simp at h⟩
 | n + 1, h => by
   obtain ⟨l, h1, h2⟩ := list_of_each n fun i hi => h i (by omega)
   obtain ⟨a, ha⟩ := h n (by omega); refine ⟨l ++ [a], by simp [h1], fun i hi => ?_⟩; by_cases hil : i < l.length
   · rw [List.getElem_append_left hil]; exact h2 i hil
   · have : i = n := by simp at hi; omega
     subst this; rw [List.getElem_append_right (by omega)]; simpa [h1] using ha
def AtOf (w : World) {α : Type} (C : Nat) (En : List Value → α → Prop) (b o : Nat) (a : α) : Prop := ∃ cs, En cs a ∧ cs.length = C ∧ ∀ j, j < C → w.cell? ⟨b, o + j, none⟩ = cs[j]?
theorem rd_slice {t e : TypeId} {α : Type} {En : List Value → α → Prop} (C : Nat) (ht : P.underlying t = some (.slice e)) (hC : P.cellsOf e = C) (hC0 : 0 < C) (he : Rd enc P w e En) :
 Rd enc P w t fun cs (l : List α) => ∃ v, cs = [v] ∧ SlV (Old w) (AtOf w C En) C v l ∧ l.length ≤ 9223372036854775807 := fun fuel cs x h => by
 rcases Deep.open_slice ht h with ⟨h0, _⟩ | ⟨a, len, cap, m, n, D, Pl, h0, hb, hl, hm, hmm, hx, hi⟩
 · exact ⟨[], _, h0, SlV.nil, by simp⟩
 · simp only [if_true] at hmm
   subst hmm; rw [hC] at hi; have hm' : m ≤ 9223372036854775807 := hm; by_cases hc0 : m = 0
   · subst hc0
     obtain rfl : len = 0 := by omega
     exact ⟨[], _, h0, .inl ⟨some a, rfl, rfl⟩, by simp⟩
   · obtain ⟨cs0, q1, q2⟩ := hi 0 (by omega)
     obtain ⟨_, q3, q4⟩ := World.cells?_some q1; have hcell := q4 0 hC0; have ha : (a.add (0 * C)).add 0 = a := by simp [Addr.add]
     rw [ha] at hcell; obtain ⟨u, hu⟩ : ∃ u, w.cell? a = some u := ⟨_, by rw [hcell]; exact List.getElem?_eq_getElem (by omega)⟩; obtain ⟨b, o, sp⟩ := a
     have hsp : sp = none := by
      cases sp with
      | none => rfl
      | some s =>
        exfalso
        simp only [World.cell?] at hu; split at hu <;> simp at hu
     subst hsp; have hbl : b < w.heap.size := World.block_lt_of_cell? _ _ hu
     obtain ⟨l, hll, hle⟩ := list_of_each (p := fun i (y : α) => AtOf w C En b (o + i * C) y) len fun i hil => by
      obtain ⟨cs', r1, r2⟩ := hi i (by omega); obtain ⟨_, r3, r4⟩ := World.cells?_some r1; obtain ⟨y, hy⟩ := he _ _ _ r2; refine ⟨y, cs', hy, r3, fun j hj => ?_⟩; have := r4 j hj; rwa [Deep.add_add, Addr.add_lit, ← Nat.add_assoc] at this
     subst hll; exact ⟨l, _, h0, .inr ⟨b, o, m, rfl, hl, hbl, hle⟩, by omega⟩
theorem rd_field {t : TypeId} {fs : Array Field} (ht : P.underlying t = some (.struct fs)) {fuel : Nat} {cs : List Value} {x : DataW H × List MemPlace} (h : DataW.trod enc P w 0 (fun _ => true) true fuel t cs = some x) :
 cs.length = P.cellsOf t ∧ ∀ (i : Nat) (f : Field) (o c : Nat) {α : Type} {En : List Value → α → Prop}, fs[i]? = some f → f.offset = o → P.cellsOf f.type = c → Rd enc P w f.type En → ∃ a, En ((cs.drop o).take c) a := by
 obtain ⟨xs, n, h1, h2, h3, h4, h5⟩ := DataW.trod_struct ht h; refine ⟨h3, fun i f o c α En hf ho hc he => ?_⟩; have h6 := h5 i f hf; have hi : i < xs.length := by rw [h4]; exact (Array.getElem?_eq_some_iff.1 hf).1
 rw [List.getElem?_eq_getElem hi, ho, hc] at h6; exact he _ _ _ h6
theorem ok_slice {t e : TypeId} {r : Reach} {b : Nat} {v : Value} (ht : P.underlying t = some (.slice e)) (hv : Value.okWide P w r b t v) : v.cells.toList = [v] := by
 unfold Value.okWide at hv; rw [ht] at hv; cases v <;> first | rfl | (simp [Cell.okWide, Cell.ok, ht] at hv; done)
theorem laidOut : laidOutB Tryz.prog = true := by kernel_rfl
theorem Ext.trod {t : TypeId} (hr : Tryz.prog.readableRec t = true) (hrow : t < Tryz.prog.types.size) {W W' : World} {v : Value} {d : DataW H} {ps : List MemPlace} (h : DataW.Trod enc Tryz.prog W 0 (fun _ => true) true t v d ps) (hE : Ext W W')
 (hlt : ∀ x ∈ ps, x.block < W.heap.size) (sp : Nat → Bool) (hsp : ∀ x ∈ ps, sp x.block = true) : DataW.Trod enc Tryz.prog W' 0 sp true t v d ps :=
 WideElems.Trod_stays laidOut hr hrow h (fun x hx => hE.below.same (hlt x hx)) hsp
end
end
section
section
variable {α : Type} {sz : Nat} {En : List Value → α → Prop} {cs cs' : List Value} {l l' : List α}
theorem RowOf.append (h : RowOf sz En cs l) (h' : RowOf sz En cs' l') : RowOf sz En (cs ++ cs') (l ++ l') := by
 obtain ⟨a, rfl, a1, a2⟩ := h; obtain ⟨b, rfl, b1, b2⟩ := h'; refine ⟨a ++ b, by simp, by simp [a1, b1], fun j hj hj' => ?_⟩; by_cases hjl : j < l.length
 · rw [List.getElem_append_left (by omega), List.getElem_append_left hjl]
   exact a2 j hjl (by omega)
 · simp only [List.length_append] at hj hj'
   rw [List.getElem_append_right (by omega), List.getElem_append_right (by omega)]; simp only [a1]; exact b2 (j - l.length) (by omega) (by omega)
theorem flat_drop : ∀ (css : List (List Value)) (i : Nat), (∀ j (h : j < css.length), css[j].length = sz) → i ≤ css.length → css.flatten.drop (i * sz) = (css.drop i).flatten ∧ css.flatten.take (i * sz) = (css.take i).flatten
 | css, 0, _, _ => by simp
 | [], i + 1, _, h => by simp at h
 | c :: css, i + 1, h, hi => by
   have h0 := h 0 (by simp); simp only [List.getElem_cons_zero] at h0; obtain ⟨h1, h2⟩ := flat_drop css i (fun j hj => by have := h (j + 1) (by simp; omega); simpa using this) (by simpa using hi); have e : (i + 1) * sz = c.length + i * sz := by rw [h0, Nat.add_mul]; omega
   simp only [List.flatten_cons, List.drop_succ_cons, List.take_succ_cons]; rw [e, List.drop_append, List.take_append]; simp only [Nat.add_sub_cancel_left, List.drop_of_length_le (show c.length ≤ c.length + i * sz by omega), List.take_of_length_le (show c.length ≤ c.length + i * sz by omega), List.nil_append, h1, h2]; exact ⟨trivial, trivial⟩
theorem RowOf.drop (h : RowOf sz En cs l) (i : Nat) (hi : i ≤ l.length) : RowOf sz En (cs.drop (i * sz)) (l.drop i) := by
 obtain ⟨a, rfl, a1, a2⟩ := h; rw [(flat_drop a i (fun j hj => (a2 j (by omega) hj).1) (by omega)).1]; refine ⟨_, rfl, by simp [a1], fun j hj hj' => ?_⟩; simp only [List.length_drop] at hj hj'; simp only [List.getElem_drop]; exact a2 (i + j) (by omega) (by omega)
theorem RowOf.take (h : RowOf sz En cs l) (i : Nat) (hi : i ≤ l.length) : RowOf sz En (cs.take (i * sz)) (l.take i) := by
 obtain ⟨a, rfl, a1, a2⟩ := h; rw [(flat_drop a i (fun j hj => (a2 j (by omega) hj).1) (by omega)).2]; refine ⟨_, rfl, by simp [a1], fun j hj hj' => ?_⟩; simp only [List.length_take] at hj hj'; simp only [List.getElem_take]; exact a2 j (by omega) (by omega)
theorem RowOf.one {c : List Value} {x : α} (h : En c x) (hc : c.length = sz) : RowOf sz En c [x] := ⟨[c], by simp, rfl, fun j hj hj' => by
 obtain rfl : j = 0 := by simp at hj; omega
 exact ⟨hc, h⟩⟩
theorem RowOf.all {p : Value → Prop} (h : RowOf sz En cs l) (hp : ∀ c x, En c x → ∀ u ∈ c, p u) : ∀ u ∈ cs, p u := by
 obtain ⟨a, rfl, a1, a2⟩ := h; intro u hu; obtain ⟨c, hc, huc⟩ := List.mem_flatten.1 hu; obtain ⟨j, hj, rfl⟩ := List.getElem_of_mem hc; exact hp _ _ (a2 j (by omega) hj).2 u huc
theorem SlV.row {w : World} {A : Nat → Prop} {At : Nat → Nat → α → Prop} {v : Value} (h : SlV A At sz v l) (hat : ∀ b o x, A b → At b o x → ∃ c, En c x ∧ c.length = sz ∧ ∀ j, j < sz → w.cell? ⟨b, o + j, none⟩ = c[j]?) :
 ∃ cs, RowOf sz En cs l ∧ SrcCells w v l.length cs := by
 rcases h with ⟨a, rfl, rfl⟩ | ⟨b, o, c, rfl, h1, h2, h3⟩
 · refine ⟨[], RowOf.nil, ?_⟩
   cases a with
   | none => exact .inl ⟨rfl, rfl, rfl⟩
   | some ad => exact .inr ⟨ad, 0, rfl, fun j u hu => by simp at hu⟩
 · obtain ⟨css, k1, k2⟩ := list_of_each (p := fun i (c : List Value) => ∃ h : i < l.length, En c l[i] ∧ c.length = sz ∧ ∀ j, j < sz → w.cell? ⟨b, o + i * sz + j, none⟩ = c[j]?) l.length fun i hi => by
    obtain ⟨c, e1, e2, e3⟩ := hat b _ _ h2 (h3 i hi); exact ⟨c, hi, e1, e2, e3⟩
   refine ⟨css.flatten, ⟨css, rfl, k1, fun j hj hj' => ?_⟩, .inr ⟨⟨b, o, none⟩, c, rfl, fun j u hu => ?_⟩⟩
   · obtain ⟨_, e1, e2, _⟩ := k2 j hj'
     exact ⟨e2, e1⟩
   · have hlen : css.flatten.length = css.length * sz := flat_len_uniform css fun j hj => let ⟨_, _, e2, _⟩ := k2 j hj; e2
     have hj : j < css.length * sz := by rw [← hlen]; exact (List.getElem?_eq_some_iff.1 hu).1
     have hsz : 0 < sz := by rcases Nat.eq_zero_or_pos sz with h | h; rw [h] at hj; omega; exact h
     have hq : j / sz < css.length := Nat.div_lt_of_lt_mul (by rwa [Nat.mul_comm] at hj); obtain ⟨_, e1, e2, e3⟩ := k2 (j / sz) hq; have hm := Nat.mod_lt j hsz; have hj' : j / sz * sz + j % sz = j := by rw [Nat.mul_comm]; exact Nat.div_add_mod j sz
     have hg := flat_get css (j / sz) (j % sz) hq (fun j hj => let ⟨_, _, e2, _⟩ := k2 j hj; e2) hm; rw [hj'] at hg; rw [Addr.add_lit, ← hu, hg, ← e3 _ hm]; congr 2
     omega
theorem SlV.of_win {w : World} {base n : Nat} {v : Value} {At : Nat → Nat → α → Prop} (h : Win w base sz v n cs) (hn : n = l.length) (hr : RowOf sz En cs l)
 (hat : ∀ b o c x, En c x → c.length = sz → (∀ i, i < sz → w.cell? ⟨b, o + i, none⟩ = c[i]?) → At b o x) : SlV (fun b => base ≤ b ∧ b < w.heap.size) At sz v l := by
 subst hn; rcases h.2 with ⟨rfl, h0⟩ | ⟨g, o, cap, rfl, h1, h2, h3, h4, h5, h6⟩
 · exact .inl ⟨none, rfl, List.eq_nil_of_length_eq_zero (by omega)⟩
 · refine .inr ⟨g, o, cap, rfl, h2, ⟨h1, h4⟩, fun j hj => ?_⟩
   obtain ⟨c, c1, c2, c3⟩ := hr.get j hj; refine hat _ _ c _ c2 c1 fun i hi => ?_
   have hlt : j * sz + i < cs.length := by
    have : (j + 1) * sz ≤ l.length * sz := Nat.mul_le_mul_right _ hj; rw [Nat.add_mul] at this; rw [h.1]; omega
   have := h6 (j * sz + i) _ (List.getElem?_eq_getElem hlt); rw [← Nat.add_assoc] at this; rw [this, ← List.getElem?_eq_getElem hlt]; exact c3 i hi
end
theorem SlV.drop {α : Type} {A : Nat → Prop} {At : Nat → Nat → α → Prop} {sz b o c : Nat} {l : List α} (h : SlV A At sz (.slice (some ⟨b, o, none⟩) l.length c) l) (i : Nat) (hi : i ≤ l.length) :
 SlV A At sz (.slice (if c = i then some ⟨b, o, none⟩ else some ⟨b, o + i * sz, none⟩) (l.length - i) (c - i)) (l.drop i) := by
 rcases h with ⟨a, h1, rfl⟩ | ⟨b', o', c', h1, h2, h3, h4⟩
 · obtain rfl : i = 0 := by simpa using hi
   simp only [List.length_nil, Value.slice.injEq] at h1; obtain ⟨rfl, _, rfl⟩ := h1; exact .inl ⟨_, rfl, rfl⟩
 · simp only [Value.slice.injEq, Option.some.injEq, Addr.mk.injEq] at h1
   obtain ⟨⟨rfl, rfl, _⟩, _, rfl⟩ := h1; by_cases hc : c = i
   · subst hc
     rw [if_pos rfl]; refine .inl ⟨_, by congr 1 <;> omega, List.drop_of_length_le h2⟩
   · rw [if_neg hc]
     refine .inr ⟨b, o + i * sz, c - i, by rw [List.length_drop], by rw [List.length_drop]; omega, h3, fun j hj => ?_⟩; rw [List.length_drop] at hj; rw [List.getElem_drop, show o + i * sz + j * sz = o + (i + j) * sz by rw [Nat.add_mul]; omega]; exact h4 (i + j) (by omega)
theorem Win.empty {w : World} {base sz g : Nat} (hb : base ≤ g) (hg : g < w.heap.size) : Win w base sz (.slice (some ⟨g, 0, none⟩) 0 0) 0 [] :=
 ⟨by simp, .inr ⟨g, 0, 0, rfl, hb, Nat.le_refl _, Nat.zero_le _, hg, fun j hj => by omega, fun j u hu => by simp at hu⟩⟩
theorem Win.take {w : World} {base sz n cap o g : Nat} {cs : List Value} (h : Win w base sz (.slice (some ⟨g, o, none⟩) n cap) n cs) (i : Nat) (hi : i ≤ n) : Win w base sz (.slice (some ⟨g, o, none⟩) i cap) i (cs.take (i * sz)) := by
 obtain ⟨h0, ⟨h, _⟩ | ⟨g', o', cap', h, h1, h2, h3, h4, h5, h6⟩⟩ := h
 · cases h
 · cases h
   refine ⟨by rw [List.length_take, h0]; exact Nat.min_eq_left (Nat.mul_le_mul_right _ hi), .inr ⟨g, o, _, rfl, h1, by omega, h3, h4, h5, fun j u hu => h6 j u ?_⟩⟩; rw [List.getElem?_take] at hu; split at hu
   · exact hu
   · cases hu
end
structure Stopped (p : Prop) : Prop where
 out : p
theorem standing {p : Prop} (h : Stopped p) : p := h.out
section
structure Res where
 tag : Option (Nat × List Value)
 p : (Nat → Prop) → World → Prop
 keeps : ∀ {F S w w'}, p F w → Keeps S w w' → (∀ k, F k → ¬ S k) → p F w'
 lt : ∀ {F w}, p F w → ∀ k, F k → k < w.heap.size
 facts : ∀ {F w b cs}, tag = some (b, cs) → p F w → F b ∧ (∀ o, w.cell? ⟨b, o, none⟩ = cs[o]?) ∧ ∀ o, w.frozen? ⟨b, o, none⟩ = false
def cellsR (b : Nat) (t : TypeId) (cs : List Value) : Res where
 tag := some (b, cs)
 p F w := (∀ k, F k ↔ k = b) ∧ Box w b t cs
 keeps h hk hs := ⟨h.1, h.2.keeps hk (hs b ((h.1 b).2 rfl))⟩
 lt h k hk := by rw [(h.1 k).1 hk]; exact h.2.lt
 facts e h := by cases e; exact ⟨(h.1 b).2 rfl, h.2.reads.1, h.2.reads.2⟩
def winR (sz : Nat) (v : Value) (n : Nat) (cs : List Value) : Res where
 tag := none
 p F w := (∀ k, F k ↔ v.ownBlock = some k) ∧ Win w 0 sz v n cs
 keeps h hk hs := ⟨h.1, h.2.keeps hk fun g hg => hs g ((h.1 g).2 hg)⟩
 lt h k hk := (h.2.block k ((h.1 k).1 hk)).2
 facts e h := by cases e
def anyR (p : (Nat → Prop) → World → Prop) (keeps : ∀ {F S w w'}, p F w → Keeps S w w' → (∀ k, F k → ¬ S k) → p F w') (lt : ∀ {F w}, p F w → ∀ k, F k → k < w.heap.size) : Res where
 tag := none
 p := p
 keeps := keeps
 lt := lt
 facts e h := by cases e
def SepL : List Res → (Nat → Prop) → World → Prop
 | [], F, w => ∀ k, ¬ F k
 | r :: L, F, w => ∃ A B, r.p A w ∧ SepL L B w ∧ (∀ k, A k → ¬ B k) ∧ ∀ k, F k ↔ A k ∨ B k
inductive Pick : List Res → Res → List Res → Prop
 | here {r L} : Pick (r :: L) r L
 | there {x r L L'} : Pick L r L' → Pick (x :: L) r (x :: L')
class PkR (L : List Res) (r : Res) (L' : outParam (List Res)) : Prop where
 out : Pick L r L'
instance (priority := 2000) pkh (r : Res) (L : List Res) : PkR (r :: L) r L := ⟨.here⟩
instance pkt (x r : Res) (L L' : List Res) [h : PkR L r L'] : PkR (x :: L) r (x :: L') := ⟨.there h.out⟩
theorem pk {L L' : List Res} {r : Res} [h : PkR L r L'] : Pick L r L' := h.out
theorem ph {r : Res} {L : List Res} : Pick (r :: L) r L := .here
theorem pt {x r : Res} {L L' : List Res} (h : Pick L r L') : Pick (x :: L) r (x :: L') := .there h
section
variable {F G S : Nat → Prop} {w w' : World} {L L' : List Res} {r r' : Res}
theorem SepL.keeps : ∀ {L : List Res} {F S : Nat → Prop} {w w' : World}, SepL L F w → Keeps S w w' → (∀ k, F k → ¬ S k) → SepL L F w'
 | [], _, _, _, _, h, _, _ => h
 | _ :: _, _, _, _, _, ⟨A, B, h1, h2, h3, h4⟩, hk, hs => ⟨A, B, Res.keeps _ h1 hk fun k hA => hs k ((h4 k).2 (.inl hA)), SepL.keeps h2 hk fun k hB => hs k ((h4 k).2 (.inr hB)), h3, h4⟩
theorem SepL.lt : ∀ {L : List Res} {F : Nat → Prop} {w : World}, SepL L F w → ∀ k, F k → k < w.heap.size
 | [], _, _, h, k, hF => (h k hF).elim
 | _ :: _, _, _, ⟨A, B, h1, h2, h3, h4⟩, k, hF => by
   rcases (h4 k).1 hF with h | h
   · exact Res.lt _ h1 k h
   · exact SepL.lt h2 k h
theorem SepL.congr : ∀ {L : List Res} {F G : Nat → Prop} {w : World}, SepL L F w → (∀ k, G k ↔ F k) → SepL L G w
 | [], _, _, _, h, e => fun k hk => h k ((e k).1 hk)
 | _ :: _, _, _, _, ⟨A, B, h1, h2, h3, h4⟩, e => ⟨A, B, h1, h2, h3, fun k => (e k).trans (h4 k)⟩
theorem SepL.swap {x : Res} (h : SepL (x :: r :: L) F w) : SepL (r :: x :: L) F w := by
 obtain ⟨A, B, h1, ⟨C, D, h2, h3, h4, h5⟩, h6, h7⟩ := h; refine ⟨C, fun k => A k ∨ D k, h2, ⟨A, D, h1, h3, fun k hA hD => h6 k hA ((h5 k).2 (.inr hD)), fun k => Iff.rfl⟩, fun k hC hAD => ?_, fun k => ?_⟩
 · rcases hAD with h | h
   · exact h6 k h ((h5 k).2 (.inl hC))
   · exact h4 k hC h
 · rw [h7 k, h5 k]
   constructor
   · rintro (h | h | h)
     · exact .inr (.inl h)
     · exact .inl h
     · exact .inr (.inr h)
   · rintro (h | h | h)
     · exact .inr (.inl h)
     · exact .inl h
     · exact .inr (.inr h)
theorem Pick.sep : ∀ {L L' : List Res} {r : Res} {F : Nat → Prop}, Pick L r L' → SepL L F w → SepL (r :: L') F w
 | _, _, _, _, .here, h => h
 | _, _, _, _, .there p, ⟨A, B, h1, h2, h3, h4⟩ => SepL.swap ⟨A, B, h1, p.sep h2, h3, h4⟩
theorem SepL.append : ∀ {L1 L2 : List Res} {A B F : Nat → Prop}, SepL L1 A w → SepL L2 B w → (∀ k, A k → ¬ B k) → (∀ k, F k ↔ A k ∨ B k) → SepL (L1 ++ L2) F w
 | [], _, A, B, F, h1, h2, _, e => h2.congr fun k => by rw [e k]; exact ⟨fun h => h.resolve_left (h1 k), .inr⟩
 | _ :: _, _, A, B, F, ⟨C, D, c1, c2, c3, c4⟩, h2, h3, e => by
   refine ⟨C, fun k => D k ∨ B k, c1, SepL.append c2 h2 (fun k hD => h3 k ((c4 k).2 (.inr hD))) (fun k => Iff.rfl), fun k hC h => ?_, fun k => ?_⟩
   · rcases h with h | h
     · exact c3 k hC h
     · exact h3 k ((c4 k).2 (.inl hC)) h
   · rw [e k, c4 k, or_assoc]
theorem SepL.split : ∀ {L1 L2 : List Res} {F : Nat → Prop}, SepL (L1 ++ L2) F w → ∃ A B, SepL L1 A w ∧ SepL L2 B w ∧ (∀ k, A k → ¬ B k) ∧ ∀ k, F k ↔ A k ∨ B k
 | [], L2, F, h => ⟨fun _ => False, F, fun k h => h, h, fun k h _ => h, fun k => ⟨.inr, fun h => h.resolve_left id⟩⟩
 | x :: L1, L2, F, ⟨C, D, c1, c2, c3, c4⟩ => by
   obtain ⟨A, B, a1, a2, a3, a4⟩ := SepL.split c2; refine ⟨fun k => C k ∨ A k, B, ⟨C, A, c1, a1, fun k hC hA => c3 k hC ((a4 k).2 (.inl hA)), fun k => Iff.rfl⟩, a2, fun k h hB => ?_, fun k => ?_⟩
   · rcases h with h | h
     · exact c3 k h ((a4 k).2 (.inr hB))
     · exact a3 k h hB
   · rw [c4 k, a4 k, or_assoc]
end
def apartL (b : Nat) : List (Nat × List Value) → Prop
 | [] => True
 | (c, _) :: l => ¬ b = c ∧ ¬ c = b ∧ apartL b l
def factsL (w : World) : List (Nat × List Value) → Prop
 | [] => True
 | (b, cs) :: l => (∀ o, w.cell? ⟨b, o, none⟩ = cs[o]?) ∧ (∀ o, w.frozen? ⟨b, o, none⟩ = false) ∧ b < w.heap.size ∧ apartL b l ∧ factsL w l
theorem SepL.tags : ∀ {L : List Res} {F : Nat → Prop} {w : World}, SepL L F w → (∀ x ∈ L.filterMap Res.tag, F x.1) ∧ factsL w (L.filterMap Res.tag)
 | [], _, _, _ => ⟨fun x hx => by simp at hx, trivial⟩
 | r :: L, F, w, ⟨A, B, h1, h2, h3, h4⟩ => by
   obtain ⟨i1, i2⟩ := SepL.tags h2; cases hr : r.tag with
   | none =>
     rw [List.filterMap_cons_none hr]; exact ⟨fun x hx => (h4 _).2 (.inr (i1 x hx)), i2⟩
   | some t =>
     obtain ⟨b, cs⟩ := t; rw [List.filterMap_cons_some hr]; obtain ⟨hA, f1, f2⟩ := r.facts hr h1; refine ⟨fun x hx => ?_, f1, f2, r.lt h1 b hA, ?_, i2⟩
     · rcases List.mem_cons.1 hx with rfl | hx
       · exact (h4 _).2 (.inl hA)
       · exact (h4 _).2 (.inr (i1 x hx))
     · have key : ∀ l : List (Nat × List Value), (∀ x ∈ l, B x.1) → apartL b l := by
        intro l; induction l with
        | nil => exact fun _ => trivial
        | cons x l ih =>
          intro hl; have hx := hl x (List.mem_cons_self ..); have hne : ¬ b = x.1 := fun e => h3 b hA (by rw [e]; exact hx)
          exact ⟨hne, fun e => hne e.symm, ih fun y hy => hl y (List.mem_cons_of_mem _ hy)⟩
       exact key _ i1
def Mem (F : Nat → Prop) (w0 w : World) (L : List Res) : Prop := Keeps F w0 w ∧ ∃ G, SepL L G w ∧ ∀ k, G k → F k ∨ w0.heap.size ≤ k
def Upd (F : Nat → Prop) (w0 w : World) (r : Res) : Prop := ∃ F', r.p F' w ∧ Keeps F w0 w ∧ ∀ k, F' k → F k ∨ w0.heap.size ≤ k
section
variable {F G S : Nat → Prop} {w0 w w' : World} {L L' L1 : List Res} {r r' : Res}
theorem Mem.start (h : r.p F w) : Mem F w w [r] := ⟨Keeps.refl _ _, F, ⟨F, fun _ => False, h, fun _ h => h, fun _ _ h => h, fun k => ⟨.inl, fun h => h.resolve_right id⟩⟩, fun k h => .inl h⟩
theorem Mem.start0 (w : World) : Mem NoB w w [] := ⟨Keeps.refl _ _, fun _ => False, fun _ h => h, fun k h => h.elim⟩
theorem Mem.pick (h : Mem F w0 w L) (p : Pick L r L') : Mem F w0 w (r :: L') := let ⟨a, G, b, c⟩ := h; ⟨a, G, p.sep b, c⟩
theorem Mem.drop (h : Mem F w0 w (r :: L)) : Mem F w0 w L := by
 obtain ⟨a, G, ⟨A, B, h1, h2, h3, h4⟩, c⟩ := h; exact ⟨a, B, h2, fun k hB => c k ((h4 k).2 (.inr hB))⟩
theorem Mem.keepsTo (h : Mem F w0 w L) : Keeps F w0 w := h.1
theorem Mem.extTo (h : Mem NoB w0 w L) : Ext w0 w := h.1
theorem Mem.upd (h : Mem F w0 w (r :: L)) : Upd F w0 w r := by
 obtain ⟨a, G, ⟨A, B, h1, h2, h3, h4⟩, c⟩ := h; exact ⟨A, h1, a, fun k hA => c k ((h4 k).2 (.inl hA))⟩
theorem Mem.facts (h : Mem F w0 w L) : factsL w (L.filterMap Res.tag) := let ⟨_, _, b, _⟩ := h; b.tags.2
theorem Mem.ext (h : Mem F w0 w L) (e : Ext w w') : Mem F w0 w' L := let ⟨a, G, b, c⟩ := h; ⟨a.ext e, G, b.keeps e fun _ _ => noB _, c⟩
theorem Mem.drew (h : Mem F w0 w L) : Mem F w0 w.drew L := h.ext (Ext.drew0 w)
theorem Mem.drewN {n : Nat} (h : Mem F w0 w L) : Mem F w0 (w.drewN n) L := h.ext ((Keeps.refl _ _).drewN n)
theorem Mem.new (h : Mem F w0 w L) (e : Ext w w') (hr : r.p G w') (hG : ∀ k, G k → w.heap.size ≤ k) : Mem F w0 w' (r :: L) := by
 obtain ⟨a, H, b, c⟩ := h; have hb := b.lt; refine ⟨a.ext e, fun k => G k ∨ H k, ⟨G, H, hr, b.keeps e fun _ _ => noB _, fun k h1 h2 => by have := hG k h1; have := hb k h2; omega, fun k => Iff.rfl⟩, fun k hk => ?_⟩; rcases hk with hk | hk
 · have := hG k hk; have := a.size; exact .inr (by omega)
 · exact c k hk
theorem Mem.step' (h : Mem F w0 w (r :: L)) : ∃ A, r.p A w ∧ (∀ k, A k → F k ∨ w0.heap.size ≤ k) ∧ ∀ (r' : Res) (w' : World), Upd A w w' r' → Mem F w0 w' (r' :: L) := by
 obtain ⟨a, G, ⟨A, B, h1, h2, h3, h4⟩, c⟩ := h; have hA := fun k hk => c k ((h4 k).2 (.inl hk))
 refine ⟨A, h1, hA, fun r' w' ⟨A', u1, u2, u3⟩ => ?_⟩; have hB := fun k hk => c k ((h4 k).2 (.inr hk))
 have hlt := h2.lt; refine ⟨a.then u2 fun i hi h => ?_, fun k => A' k ∨ B k, ⟨A', B, u1, h2.keeps u2 fun k hk hA' => h3 k hA' hk, fun k h5 h6 => ?_, fun k => Iff.rfl⟩, fun k hk => ?_⟩
 · rcases hA i h with h | h
   · exact h
   · omega
 · rcases u3 k h5 with h | h
   · exact h3 k h h6
   · have := hlt k h6; omega
 · rcases hk with hk | hk
   · rcases u3 k hk with h | h
     · exact hA k h
     · have := a.size; exact .inr (by omega)
   · exact hB k hk
theorem Mem.step (h : Mem F w0 w (r :: L)) : ∃ A, r.p A w ∧ ∀ (r' : Res) (w' : World), Upd A w w' r' → Mem F w0 w' (r' :: L) := let ⟨A, h1, _, h2⟩ := h.step'; ⟨A, h1, h2⟩
theorem Mem.open (h : Mem F w0 w (r :: L)) (ho : ∀ A, r.p A w → ∃ B, SepL L1 B w ∧ ∀ k, B k → A k) : Mem F w0 w (L1 ++ L) := by
 obtain ⟨a, G, ⟨A, B, h1, h2, h3, h4⟩, c⟩ := h; obtain ⟨C, d1, d2⟩ := ho A h1; refine ⟨a, fun k => C k ∨ B k, SepL.append d1 h2 (fun k hC => h3 k (d2 k hC)) (fun k => Iff.rfl), fun k hk => c k ((h4 k).2 ?_)⟩; rcases hk with hk | hk
 · exact .inl (d2 k hk)
 · exact .inr hk
theorem Mem.openE {α : Sort _} {M : α → List Res} (h : Mem F w0 w (r :: L)) (ho : ∀ A, r.p A w → ∃ x B, SepL (M x) B w ∧ ∀ k, B k → A k) : ∃ x, Mem F w0 w (M x ++ L) := by
 obtain ⟨a, G, ⟨A, B, h1, h2, h3, h4⟩, c⟩ := h; obtain ⟨x, C, d1, d2⟩ := ho A h1; refine ⟨x, a, fun k => C k ∨ B k, SepL.append d1 h2 (fun k hC => h3 k (d2 k hC)) (fun k => Iff.rfl), fun k hk => c k ((h4 k).2 ?_)⟩; rcases hk with hk | hk
 · exact .inl (d2 k hk)
 · exact .inr hk
theorem Mem.close (h : Mem F w0 w (L1 ++ L)) (hc : ∀ A, SepL L1 A w → r.p A w) : Mem F w0 w (r :: L) := by
 obtain ⟨a, G, b, c⟩ := h; obtain ⟨A, B, h1, h2, h3, h4⟩ := b.split; exact ⟨a, G, ⟨A, B, hc A h1, h2, h3, h4⟩, c⟩
theorem Mem.turn (h : Mem F w0 w (r :: L)) (hc : ∀ A, r.p A w → r'.p A w) : Mem F w0 w (r' :: L) := by
 obtain ⟨a, G, ⟨A, B, h1, h2, h3, h4⟩, c⟩ := h; exact ⟨a, G, ⟨A, B, hc A h1, h2, h3, h4⟩, c⟩
theorem Mem.get (h : Mem F w0 w L) (p : Pick L r L') : ∃ A, r.p A w := let ⟨_, _, ⟨A, _, h1, _⟩, _⟩ := h.pick p; ⟨A, h1⟩
theorem Mem.fact {φ : Prop} (h : Mem F w0 w (r :: L)) (hf : ∀ A, r.p A w → φ) : φ := let ⟨_, _, ⟨A, _, h1, _⟩, _⟩ := h; hf A h1
theorem Mem.alloc {t : TypeId} {cs : List Value} {n : Nat} (h : Mem F w0 w L) (hn : w.heap.size = n) : Mem F w0 (w.alloc (.cells cs.toArray t)) (cellsR n t cs :: L) := by
 subst hn; exact h.new (G := fun k => k = w.heap.size) ((Keeps.refl _ _).alloc _) ⟨fun k => Iff.rfl, Box.new w t cs⟩ (fun k hk => by omega)
theorem Mem.allocO {o : Obj} (h : Mem F w0 w L) : Mem F w0 (w.alloc o) L := h.ext ((Keeps.refl _ _).alloc _)
theorem Mem.set {b o : Nat} {t : TypeId} {cs : List Value} {v : Value} (h : Mem F w0 w L) (p : Pick L (cellsR b t cs) L') : Mem F w0 (w.setCell ⟨b, o, none⟩ v) (cellsR b t (cs.set o v) :: L') := by
 obtain ⟨A, h1, h2⟩ := (h.pick p).step; refine h2 _ _ ⟨A, ⟨h1.1, h1.2.set o v⟩, (Keeps.refl _ _).setCell _ _ (.inl ((h1.1 b).2 rfl)), fun k h => .inl h⟩
theorem Mem.call {P : Program} {f : FuncId} {args : Array Value} {K : Ending → World → Prop} (h : Mem F w0 w' L) (k : ∀ w, Mem F w0 w L → Calls P f args w K) : Calls P f args w' K := k _ h
theorem Mem.list {P : Program} {ops : Array Oper} {Q : Exit → Act → World → Prop} {l : List Oper} {a : Act} (h : Mem F w0 w' L) (k : ∀ w, Mem F w0 w L → wpList P ops Q l a w) : wpList P ops Q l a w' := k _ h
theorem Mem.append {P : Program} (t tx ty e : TypeId) (i : TypeInfo) (z : Value) (sz bytes : Nat) (ht : P.underlying t = some (.slice e)) (hi : P.info? e = some i) (hz : i.zero = some z)
 (hsize : i.size = sz) (hby : i.bytes = bytes) (hzs : z.cells.size = sz) {v : Value} {n : Nat} {cs : List Value} (h : Mem F w0 w (winR sz v n cs :: L))
 (x : Value) (m : Nat) (news : List Value) (hs : Src P sz tx x m news w) (h63 : n + m ≤ maxLen) (hbytes : (n + m) * bytes ≤ 140737488355328) :
 ∃ v' w', (Builtin.append_ #[t, tx] ty #[v, x]).run P w = .ok v' w' ∧ Mem F w0 w' (winR sz v' (n + m) (cs ++ news) :: L) := by
 obtain ⟨A, h1, h2⟩ := h.step; obtain ⟨v', w', hr, hw, hk, ho⟩ := run_append_win w 0 t tx ty e i z sz bytes ht hi hz hsize hby hzs v n cs h1.2 x m news hs h63 hbytes (Nat.zero_le _); refine ⟨v', w', hr, h2 _ _ ⟨Own v', ⟨fun k => Iff.rfl, hw⟩, hk.mono fun k _ hk => (h1.1 k).2 hk, fun k hk => ?_⟩⟩; rcases ho with ho | ho
 · exact .inl ((h1.1 k).2 (by rw [← ho]; exact hk))
 · have hk' : v'.ownBlock = some k := hk
   rw [ho] at hk'; exact .inr (by have := Option.some.inj hk'; omega)
end
end
theorem Mem.newU {F : Nat → Prop} {w0 w w' : World} {L : List Res} {r : Res} (h : Mem F w0 w L) (u : Upd NoB w w' r) : Mem F w0 w' (r :: L) := by
 obtain ⟨F', h1, h2, h3⟩ := u; exact h.new (G := F') h2 h1 fun k hk => (h3 k hk).resolve_left (noB _)
theorem Upd.pre {A : Nat → Prop} {w w1 w2 : World} {r : Res} (e : Ext w w1) (u : Upd A w1 w2 r) : Upd A w w2 r := by
 obtain ⟨F', h1, h2, h3⟩ := u; exact ⟨F', h1, (Ext.keeps e).trans h2, fun k hk => (h3 k hk).imp id fun h => Nat.le_trans e.size h⟩
theorem Mem.callE {P : Program} {f : FuncId} {args : Array Value} {K : Ending → World → Prop} {F : Nat → Prop} {w0 w' wr : World} {L : List Res} (h : Mem F w0 w' L) (h2 : Ext wr w') (k : ∀ w, Mem F w0 w L → Ext wr w → Calls P f args w K) : Calls P f args w' K := k _ h h2
section
section
variable {P : Program} {ops : Array Oper} {rest : List Oper} {o : Oper} {a : Act} {w w' : World} {Q : Exit → Act → World → Prop}
theorem wpList_skip_ran (hg : o.guard = none) (hr : (execOp a.eval o).run P w = .ok .skip w') (h : wpList P ops Q rest (a.put o.dst undef) w') : wpList P ops Q (o :: rest) a w := by
 refine wpList_plain hg fun K hK => ?_
 unfold Oper.wp; rw [hr]; exact hK _ _ h
theorem Box.setAll {b : Nat} {t : TypeId} : ∀ (vs cs pre : List Value) (w : World), Box w b t (pre ++ cs) → cs.length = vs.length → Box (w.setCells b pre.length vs) b t (pre ++ vs)
 | [], cs, pre, w, hb, hl => by
   obtain rfl : cs = [] := List.eq_nil_of_length_eq_zero hl; exact hb
 | v :: vs, [], pre, w, hb, hl => by simp at hl
 | v :: vs, c :: cs, pre, w, hb, hl => by
   have h1 := hb.set pre.length v; rw [List.set_append_right _ _ (Nat.le_refl _), Nat.sub_self, List.set_cons_zero] at h1; have h2 := Box.setAll vs cs (pre ++ [v]) (w.setCell ⟨b, pre.length, none⟩ v) (by simpa using h1) (by simpa using hl); rw [List.length_append, List.append_assoc] at h2; exact h2
theorem wpList_store_wide (ty : TypeId) {b : Nat} {t : TypeId} {cs vs : List Value} {i : TypeInfo} (x y : Operand) (hb : Box w b t cs) (hi : P.info? ty = some i) (hs : vs.length = i.size) (hc : cs.length = i.size) (h1 : ∀ v ∈ vs, v.oneCell' = true)
 (ho : o.op = .store ty x y) (hg : o.guard = none) (hx : a.eval x = .pointer (some ⟨b, 0, none⟩)) (hy : a.eval y = .agg vs.toArray)
 (h : ∀ w', Box w' b t vs → Keeps (OneB b) w w' → wpList P ops Q rest (a.put o.dst undef) w') : wpList P ops Q (o :: rest) a w := by
 have hr := Lib.rl_storeVar_cells (P := P) ty i hi b 0 vs hs h1 w (fun k hk => by
  rw [hb.reads.1, List.getElem?_eq_getElem (by omega)]; rfl) (fun k hk => by rw [hb.reads.2])
 refine wpList_skip_ran hg (w' := w.setCells b 0 vs) (by simp [execOp, ho, hx, hy, Instr.storeAt, Instr.sureAddr, Result.andThen, hr]) (h _ ?_ ?_)
 · exact Box.setAll vs cs [] w hb (by omega)
 · exact (Keeps.refl _ _).setCells b 0 vs (.inl rfl)
theorem wpList_box_wide (ty : TypeId) {vs : List Value} (x : Operand) (ho : o.op = .box ty x) (hg : o.guard = none) (hx : a.eval x = .agg vs.toArray)
 (h : ∀ w', Box w' w.heap.size ty vs → Ext w w' → w'.heap.size = w.heap.size + 1 → wpList P ops Q rest (a.put o.dst (.pointer (some ⟨w.heap.size, 0, none⟩))) w') : wpList P ops Q (o :: rest) a w :=
 wpList_ran hg (w' := w.alloc (.cells vs.toArray ty)) (by simp [execOp, ho, hx, Instr.box, newVar, newRow, Value.cells, Result.andThen]) (h _ (Box.new _ _ _) ((Keeps.refl _ _).alloc _) (by simp))
theorem wpList_alloc_wide (ty : TypeId) {vs : List Value} (hz : (zeroValue ty).run P w = .ok (.agg vs.toArray) w) (ho : o.op = .alloc ty) (hg : o.guard = none)
 (h : ∀ w', Box w' w.heap.size ty vs → Ext w w' → w'.heap.size = w.heap.size + 1 → wpList P ops Q rest (a.put o.dst (.pointer (some ⟨w.heap.size, 0, none⟩))) w') : wpList P ops Q (o :: rest) a w :=
 wpList_ran hg (w' := w.alloc (.cells vs.toArray ty)) (by simp [execOp, ho, Instr.alloc, hz, newVar, newRow, Value.cells, Result.andThen]) (h _ (Box.new _ _ _) ((Keeps.refl _ _).alloc _) (by simp))
end
end
section
inductive Sub : List Res → List Res → Prop
 | nil {L} : Sub [] L
 | cons {r L L1 L'} : Pick L r L1 → Sub L' L1 → Sub (r :: L') L
class SbR (L' L : List Res) : Prop where
 out : Sub L' L
instance sbn (L : List Res) : SbR [] L := ⟨.nil⟩
instance sbc (r : Res) (L L1 L' : List Res) [p : PkR L r L1] [s : SbR L' L1] : SbR (r :: L') L := ⟨.cons p.out s.out⟩
theorem sbI {L' L : List Res} [h : SbR L' L] : Sub L' L := h.out
theorem sub_sep {w : World} : ∀ {L L' : List Res} {G : Nat → Prop}, Sub L' L → SepL L G w → ∃ G', SepL L' G' w ∧ ∀ k, G' k → G k
 | L, [], G, _, h => ⟨fun _ => False, fun _ h => h, fun _ h => h.elim⟩
 | L, r :: L', G, .cons p s, h => by
   obtain ⟨A, B, h1, h2, h3, h4⟩ := p.sep h; obtain ⟨G', g1, g2⟩ := sub_sep s h2; exact ⟨fun k => A k ∨ G' k, ⟨A, G', h1, g1, fun k hA hG => h3 k hA (g2 k hG), fun k => Iff.rfl⟩, fun k hk => (h4 k).2 (hk.imp id (g2 k))⟩
theorem Mem.sub {F : Nat → Prop} {w0 w : World} {L L' : List Res} (h : Mem F w0 w L) (s : Sub L' L) : Mem F w0 w L' := by
 obtain ⟨a, G, b, c⟩ := h; obtain ⟨G', g1, g2⟩ := sub_sep s b; exact ⟨a, G', g1, fun k hk => c k (g2 k hk)⟩
theorem Mem.mem {F : Nat → Prop} {w0 w' : World} {L L' : List Res} (h : Mem F w0 w' L) (k : ∀ w, Mem F w0 w L → Mem F w0 w L') : Mem F w0 w' L' := k _ h
theorem Mem.post {P : Program} {fn : Func} {R : Ending → World → Prop} {e : Exit} {a : Act} {F : Nat → Prop} {w0 w' : World} {L : List Res} (h : Mem F w0 w' L) (k : ∀ w, Mem F w0 w L → bodyPost P fn R e a w) : bodyPost P fn R e a w' := k _ h
section
variable {P : Program} {ops : Array Oper} {rest : List Oper} {o : Oper} {a : Act} {w w0 : World} {Q : Exit → Act → World → Prop} {F : Nat → Prop} {L L' : List Res}
theorem at_load (ty : TypeId) (x : Operand) (ho : o.op = .load ty x) (h : wpList P ops Q (o :: rest) a w) : wpList P ops Q (o :: rest) a w := h
theorem at_store (ty : TypeId) (x y : Operand) (ho : o.op = .store ty x y) (h : wpList P ops Q (o :: rest) a w) : wpList P ops Q (o :: rest) a w := h
theorem at_box (ty : TypeId) (x : Operand) (ho : o.op = .box ty x) (h : wpList P ops Q (o :: rest) a w) : wpList P ops Q (o :: rest) a w := h
theorem at_alloc (ty : TypeId) (ho : o.op = .alloc ty) (h : wpList P ops Q (o :: rest) a w) : wpList P ops Q (o :: rest) a w := h
theorem at_list {l : List Oper} (h : wpList P ops Q l a w) : wpList P ops Q l a w := h
theorem mem_store_wide (ty : TypeId) {b : Nat} {t : TypeId} {cs vs : List Value} (x y : Operand) (ho : o.op = .store ty x y) (hg : o.guard = none) (hx : a.eval x = .pointer (some ⟨b, 0, none⟩)) (hy : a.eval y = .agg vs.toArray) (h : Mem F w0 w L) (p : Pick L (cellsR b t cs) L') {n : Nat}
 (hn : (P.info? ty).map (·.size) = some n) (hs : vs.length = n) (hc : cs.length = n) (h1 : ∀ v ∈ vs, v.oneCell' = true)
 (k : ∀ w', Mem F w0 w' (cellsR b t vs :: L') → wpList P ops Q rest (a.put o.dst undef) w') : wpList P ops Q (o :: rest) a w := by
 obtain ⟨A, hA, hS⟩ := (h.pick p).step
 obtain ⟨i, hi, hin⟩ : ∃ i, P.info? ty = some i ∧ i.size = n := by
  cases h : P.info? ty with
  | none => rw [h] at hn; cases hn
  | some i => rw [h] at hn; exact ⟨i, rfl, by simpa using hn⟩
 subst hin; refine wpList_store_wide ty x y hA.2 hi hs hc h1 ho hg hx hy fun w' hb hk => k w' (hS (cellsR b t vs) w' ⟨A, ⟨hA.1, hb⟩, hk.mono fun k _ h => (hA.1 k).2 h, fun k hk => .inl hk⟩)
theorem mem_box_wide (ty : TypeId) {vs : List Value} (x : Operand) (ho : o.op = .box ty x) (hg : o.guard = none) (hx : a.eval x = .agg vs.toArray) (h : Mem F w0 w L)
 (k : ∀ w' n, Mem F w0 w' (cellsR n ty vs :: L) → wpList P ops Q rest (a.put o.dst (.pointer (some ⟨n, 0, none⟩))) w') : wpList P ops Q (o :: rest) a w :=
 wpList_box_wide ty x ho hg hx fun w' hb he hs => k w' _ (h.new (G := fun k => k = w.heap.size) he ⟨fun k => Iff.rfl, hb⟩ (fun k hk => by omega))
theorem mem_alloc_wide (ty : TypeId) {vs : List Value} (ho : o.op = .alloc ty) (hg : o.guard = none) (hz : (zeroValue ty).run P w = .ok (.agg vs.toArray) w) (h : Mem F w0 w L)
 (k : ∀ w' n, Mem F w0 w' (cellsR n ty vs :: L) → wpList P ops Q rest (a.put o.dst (.pointer (some ⟨n, 0, none⟩))) w') : wpList P ops Q (o :: rest) a w :=
 wpList_alloc_wide ty hz ho hg fun w' hb he hs => k w' _ (h.new (G := fun k => k = w.heap.size) he ⟨fun k => Iff.rfl, hb⟩ (fun k hk => by omega))
theorem one_set {cs : List Value} (h : ∀ v ∈ cs, v.oneCell' = true) {u : Value} (hu : u.oneCell' = true) (i : Nat) : ∀ v ∈ cs.set i u, v.oneCell' = true := fun v hv => by
 rcases List.mem_or_eq_of_mem_set hv with h1 | rfl
 · exact h v h1
 · exact hu
theorem loadVar_wide (ty : TypeId) {d : TypeDesc} {b : Nat} {t : TypeId} {cs : List Value} (h : Mem F w0 w L) (p : Pick L (cellsR b t cs) L') (hu : P.underlying ty = some d) (hd : (match d with | .struct _ | .array _ _ => true | _ => false) = true)
 (hi : (P.info? ty).map (·.size) = some cs.length) : (loadVar ty ⟨b, 0, none⟩).run P w = .ok (.agg cs.toArray) w := by
 obtain ⟨_, hb⟩ := h.get p; exact run_loadVar_row w b t ty cs.toArray (0, 0) d hb.2 hu hd (by simpa using hi)
theorem results_ct {fn : Func} {r s : Nat} {ty : TypeId} {v : Value} {ad : Addr} (hr : fn.results = #[.cell r ty, .tmp s]) (tmps : Array Value) (h0 : tmps.getD r undef = .pointer (some ad)) (hl : (loadVar ty ad).run P w = .ok v w) :
 (results fn tmps).run P w = .ok (.tuple #[v, tmps.getD s undef]) w := by
 unfold results; rw [hr]; simp only [List.mapM_toArray, List.mapM_cons, List.mapM_nil]; simp [h0, asAddr, hl, Sem.run_bind, Result.andThen]
theorem results_c {fn : Func} {r : Nat} {ty : TypeId} {v : Value} {ad : Addr} (hr : fn.results = #[.cell r ty]) (tmps : Array Value) (h0 : tmps.getD r undef = .pointer (some ad)) (hl : (loadVar ty ad).run P w = .ok v w) :
 (results fn tmps).run P w = .ok v w := by
 unfold results; rw [hr]; simp only [List.mapM_toArray, List.mapM_cons, List.mapM_nil]; simp [h0, asAddr, hl, Sem.run_bind, Result.andThen]
end
end
section
structure Enc (α : Type) where
 cells : α → List Value
 sz : Nat
 len : ∀ x, (cells x).length = sz
 one : ∀ x, ∀ u ∈ cells x, u.oneCell' = true
def Enc.row {α : Type} (E : Enc α) : List α → List Value
 | [] => []
 | x :: l => E.cells x ++ Enc.row E l
section
variable {α : Type} (E : Enc α)
theorem Enc.row_len : ∀ l : List α, (E.row l).length = l.length * E.sz
 | [] => by simp [Enc.row]
 | x :: l => by rw [Enc.row, List.length_append, E.len, Enc.row_len l, List.length_cons, Nat.add_mul]; omega
theorem Enc.row_append : ∀ l m : List α, E.row (l ++ m) = E.row l ++ E.row m
 | [], m => rfl
 | x :: l, m => by rw [List.cons_append, Enc.row, Enc.row_append l m, Enc.row, List.append_assoc]
theorem Enc.row_get : ∀ (l : List α) (i j : Nat) (hi : i < l.length), j < E.sz → (E.row l)[i * E.sz + j]? = (E.cells l[i])[j]?
 | x :: l, 0, j, hi, hj => by
   rw [Enc.row, Nat.zero_mul, Nat.zero_add, List.getElem?_append_left (by rw [E.len]; exact hj)]; rfl
 | x :: l, i + 1, j, hi, hj => by
   have hi' : i < l.length := by simpa using hi
   rw [Enc.row, List.getElem?_append_right (by rw [E.len, Nat.add_mul]; omega), E.len, show (i + 1) * E.sz + j - E.sz = i * E.sz + j by rw [Nat.add_mul]; omega, Enc.row_get l i j hi' hj]; rfl
def rowR (v : Value) (l : List α) : Res := winR E.sz v l.length (E.row l)
variable {E} {F : Nat → Prop} {w0 w : World} {L : List Res} {v : Value} {l : List α}
theorem Mem.nilRow (h : Mem F w0 w L) : Mem F w0 w (rowR E (.slice none 0 0) [] :: L) :=
 h.new (G := fun _ => False) (Keeps.refl _ _) ⟨fun k => ⟨fun h => h.elim, fun h => by cases h⟩, Win.nil w 0 E.sz⟩ (fun k h => h.elim)
theorem Mem.rowAdd {P : Program} (t tx ty e : TypeId) (i : TypeInfo) (z : Value) (bytes : Nat) (ht : P.underlying t = some (.slice e)) (htx : P.underlying tx = some (.slice e)) (hi : P.info? e = some i) (hz : i.zero = some z)
 (hsize : i.size = E.sz) (hby : i.bytes = bytes) (hzs : z.cells.size = E.sz) (h : Mem F w0 w (rowR E v l :: L)) (b c : Nat) (x : α) (hb : ∀ o, w.cell? ⟨b, o, none⟩ = (E.cells x)[o]?)
 (h63 : l.length + 1 ≤ maxLen) (hbytes : (l.length + 1) * bytes ≤ 140737488355328) :
 ∃ v' w', (Builtin.append_ #[t, tx] ty #[v, .slice (some ⟨b, 0, none⟩) 1 c]).run P w = .ok v' w' ∧ Mem F w0 w' (rowR E v' (l ++ [x]) :: L) := by
 have hsrc : SrcCells w (.slice (some ⟨b, 0, none⟩) 1 c) 1 (E.cells x) := .inr ⟨_, _, rfl, fun j u hu => by
  rw [← hu, ← hb j]; by_cases hj : j = 0
  · subst hj; rfl
  · simp [Addr.add, hj]⟩
 obtain ⟨v', w', hr, hm⟩ := Mem.append t tx ty e i z E.sz bytes ht hi hz hsize hby hzs h (.slice (some ⟨b, 0, none⟩) 1 c) 1 (E.cells x) (hsrc.toSrc htx (by rw [E.len, Nat.one_mul]) (E.one x)) h63 hbytes; refine ⟨v', w', hr, ?_⟩; unfold rowR; rw [E.row_append, List.length_append, show E.row [x] = E.cells x by rw [Enc.row, Enc.row, List.append_nil]]; exact hm
theorem row_cells {A : Nat → Prop} (h : (rowR E v l).p A w) (hl : 0 < l.length) : ∃ g o cap, v = .slice (some ⟨g, o, none⟩) l.length cap ∧ l.length ≤ cap ∧ A g ∧ ∀ (i : Nat) (hi : i < l.length) (j : Nat), j < E.sz → w.cell? ⟨g, o + i * E.sz + j, none⟩ = (E.cells l[i])[j]? := by
 obtain ⟨h1, h2⟩ := h; obtain ⟨g, o, cap, rfl, -, -, hc, hr⟩ := h2.form hl; refine ⟨g, o, cap, rfl, hc, (h1 g).2 rfl, fun i hi j hj => ?_⟩; have hj' : j < (E.cells l[i]).length := by rw [E.len]; exact hj
 have hg : (E.row l)[i * E.sz + j]? = some ((E.cells l[i])[j]) := by rw [E.row_get l i j hi hj, List.getElem?_eq_getElem hj']
 rw [Nat.add_assoc, hr _ _ hg, List.getElem?_eq_getElem hj']
theorem row_len {A : Nat → Prop} (h : (rowR E v l).p A w) : ∃ p c, v = .slice p l.length c := h.2.len
end
end
theorem own : ownKnob Tryz.prog.godebug = none := by kernel_rfl
noncomputable def laidWorld (os : Os) : World :=
 let w0 := World.holding Tryz.prog os ⟨#[], #[], []⟩
 let put (h : Array Obj) (g : Nat) (cs : Array Value) : Array Obj := h.modify g fun
  | .cells _ t frozen => .cells cs t frozen
  | o => o
 let h1 := put w0.heap 0 (Lib.firstTab.map fun z => Value.int .u8 z).toArray
 let h2 := put h1 1 ((List.range 16).flatMap fun i => [Value.int .u8 (Lib.accLo i), Value.int .u8 (Lib.accHi i)]).toArray
 { w0 with heap := h2 }
def tables : List (String × DataW Unit) := [("unicode/utf8.acceptRanges", Rows.laid_unicode_utf8_acceptRanges), ("unicode/utf8.first", Rows.laid_unicode_utf8_first)]
theorem laid_met (os : Os) (args : Array Value) : laidMet Tryz.prog tables ((laidWorld os).forCall (fun _ _ => 0) ⟨#[], args, []⟩).memory :=
 (LaidIn.of_run (l := tables) [0, 1] 8 (by kernel_rfl) (by kernel_rfl) (by kernel_rfl) (by kernel_rfl)).met
def Tab (W : World) : Prop := laidMetH Tryz.prog tables W
end Go.Proofs.YtoadjbgpfihoiaaGreatDoor
