/- Texts RingC, RingD, RingE, RingF, RingG, RingH, RX, RMain, Ref, RefB, RefC, RefD, RefE, RefF, RefX, Same, Collect, Copy, CopyB, RSame, one behind the other. Conditions: as each says. -/
import Derived.Test.YtoadjbgpfihoiaaGreatDoorFuJ
import Derived.BigFrameIn
import Derived.RegionTactic
set_option linter.unusedVariables false
set_option linter.unusedSimpArgs false
set_option maxHeartbeats 8000000
set_option maxRecDepth 100000
namespace Go.Proofs.YtoadjbgpfihoiaaGreatDoor
open Go.RowKit
theorem RingAt.one {w : World} {A : Nat → Prop} {b f : Nat} {R : AR} (h : RingAt w A b f R) (hA : ¬ A b) (n l : Nat) (hn : n ≤ R.items.length) :
 RingAt (w.setCell ⟨b, 1, none⟩ (.int .i64 (n : Int))) A b f { R with items := R.items.take n } ∧ RingAt (w.setCell ⟨b, 2, none⟩ (.int .i64 (l : Int))) A b f { R with lost := l } := by
 have hAn : ∀ k, A k → ¬ OneB b k := fun k h1 h2 => hA (by unfold OneB at h2; rwa [← h2])
 have sm : ∀ o, o < 196 → (w.cell? ⟨b, o, none⟩).isSome = true := fun o ho => by obtain ⟨v, hv⟩ := h.has o ho; rw [hv]; rfl
 constructor
 · have hk : Keeps (OneB b) w (w.setCell ⟨b, 1, none⟩ (.int .i64 (n : Int))) := (Keeps.refl (OneB b) w).setOne _ _
   have hl := h.hl; refine ⟨fun o => by simp [h.fz], fun o ho => has_set _ (h.has o ho), ?_, ?_, ?_, ?_, h.hf, h.hm, by simp; omega, ?_⟩
   · rw [cell_keep _ _ _ _ _ _ (by omega)]; exact h.c0
   · rw [cell_put _ _ _ _ (sm _ (by omega))]; simp; omega
   · rw [cell_keep _ _ _ _ _ _ (by omega)]; exact h.c2
   · rw [cell_keep _ _ _ _ _ _ (by omega)]; exact h.c3
   · intro i hi
     simp only [List.length_take] at hi; simp only [List.getElem_take]; obtain ⟨i1, i2, v, i3, i4⟩ := h.it i (by omega); refine ⟨?_, ?_, v, ?_, i4.keeps hk hAn⟩; all_goals rw [cell_keep _ _ _ _ _ _ (by omega)]
     all_goals assumption
 · have hk : Keeps (OneB b) w (w.setCell ⟨b, 2, none⟩ (.int .i64 (l : Int))) := (Keeps.refl (OneB b) w).setOne _ _
   refine ⟨fun o => by simp [h.fz], fun o ho => has_set _ (h.has o ho), ?_, ?_, ?_, ?_, h.hf, h.hm, h.hl, ?_⟩
   · rw [cell_keep _ _ _ _ _ _ (by omega)]; exact h.c0
   · rw [cell_keep _ _ _ _ _ _ (by omega)]; exact h.c1
   · rw [cell_put _ _ _ _ (sm _ (by omega))]
   · rw [cell_keep _ _ _ _ _ _ (by omega)]; exact h.c3
   · intro i hi
     obtain ⟨i1, i2, v, i3, i4⟩ := h.it i hi; refine ⟨?_, ?_, v, ?_, i4.keeps hk hAn⟩; all_goals rw [cell_keep _ _ _ _ _ _ (by omega)]
     all_goals assumption
def AR.put (R : AR) (x : It) : AR × Nat × Nat :=
 if !x.side && x.key != 0 then (R, 0, 2)
 else if 1024 < x.bytes.length then (R, 0, 3)
 else match R.items.findIdx? (p33 x) with
  | some i => ({ R with items := R.items.set i x, lost := R.lost + 1 }, 1, 0)
  | none =>
    if R.items.length < R.most then ({ R with items := R.items ++ [x] }, 0, 0)
    else match R.items.findIdx? p34 with
     | some i => ({ R with items := R.items.eraseIdx i ++ [x], lost := R.lost + 1 }, 1, 0)
     | none => if x.side then ({ R with lost := R.lost + 1 }, 1, 0) else (R, 0, 350)
def PutPost (w : World) (A : Nat → Prop) (b f : Nat) (R : AR) (x : It) (e : Ending) (w' : World) : Prop :=
 e = .returned (.tuple #[.int .i64 ((R.put x).2.1 : Nat), .int .i64 ((R.put x).2.2 : Nat)]) ∧ RingAt w' (fun k => A k ∨ (w.heap.size ≤ k ∧ k < w'.heap.size)) b f (R.put x).1 ∧ Keeps (OneB b) w w'
theorem PutPost.mk {w w' : World} {A : Nat → Prop} {b f n m : Nat} {R R' : AR} {x : It} (hR : R.put x = (R', n, m)) (h : RingAt w' (fun k => A k ∨ (w.heap.size ≤ k ∧ k < w'.heap.size)) b f R') (hk : Keeps (OneB b) w w') :
 PutPost w A b f R x (.returned (.tuple #[.int .i64 (n : Int), .int .i64 (m : Int)])) w' := by
 unfold PutPost; rw [hR]; exact ⟨rfl, h, hk⟩
def Nonish (w : World) (p : Option Addr) : Prop := p = none ∨ ∃ b, p = some ⟨b, 0, none⟩ ∧ w.cell? ⟨b, 3, none⟩ = some (.int .i64 0)
theorem Nonish.keeps {w w' : World} {p : Option Addr} {S : Nat → Prop} (h : Nonish w p) (hk : Keeps S w w') (hs : ∀ b, p = some ⟨b, 0, none⟩ → ¬ S b) : Nonish w' p := by
 rcases h with h | ⟨b, rfl, h⟩
 · exact .inl h
 · exact .inr ⟨b, rfl, hk.cell (hs b rfl) h⟩
theorem Nonish.ext {w w' : World} {p : Option Addr} (h : Nonish w p) (hk : Ext w w') : Nonish w' p := h.keeps hk fun _ _ => noB _

def ItemEn (w : World) (A : Nat → Prop) (c : List Value) (x : It) : Prop := ∃ bv, c = [.bool x.side, .int .i64 x.key, bv] ∧ Bytes w A bv x.bytes
theorem ItemEn.at {w : World} {A A' : Nat → Prop} (hA : ∀ k, A k → A' k) (b o : Nat) (c : List Value) (x : It) (h : ItemEn w A c x) (hl : c.length = 3) (hc : ∀ i, i < 3 → w.cell? ⟨b, o + i, none⟩ = c[i]?) : ItemAt w A' b o x := by
 obtain ⟨bv, rfl, hb⟩ := h; exact ⟨by simpa using hc 0 (by omega), by simpa using hc 1 (by omega), bv, by simpa using hc 2 (by omega), hb.mono hA⟩
def SeqAt (w : World) (A : Nat → Prop) (bx : Nat) (l : List It) : Prop := ∃ sv, w.cell? ⟨bx, 0, none⟩ = some sv ∧ SlV A (ItemAt w A) 3 sv l
theorem SeqAt.keeps {w w' : World} {A S : Nat → Prop} {bx : Nat} {l : List It} (h : SeqAt w A bx l) (hk : Keeps S w w') (hb : ¬ S bx) (hA : ∀ k, A k → ¬ S k) : SeqAt w' A bx l :=
 let ⟨sv, h1, h2⟩ := h
 ⟨sv, hk.cell hb h1, h2.mono (fun _ h => h) fun b o x ha hi => hi.keeps hk (hA b ha) hA⟩
theorem SeqAt.ext {w w' : World} {A : Nat → Prop} {bx : Nat} {l : List It} (h : SeqAt w A bx l) (hk : Ext w w') : SeqAt w' A bx l := h.keeps hk (noB _) fun _ _ => noB _
section
attribute [local go_sem] Oper.semAt_some
end
section
attribute [local go_sem] Oper.semAt_some
def mains (l : List It) : Nat := (l.filter fun x => !x.side).length
theorem mains_le (l : List It) : mains l ≤ l.length := List.length_filter_le _ _
end
def RingX (w : World) (N : Nat → Prop) (b : Nat) (R : AR) : Prop := ∃ f A, RingAt w A b f R ∧ ¬ A b ∧ ∀ k, A k → k < w.heap.size ∧ ¬ N k
theorem RingX.keeps {w w' : World} {N S : Nat → Prop} {b : Nat} {R : AR} (h : RingX w N b R) (hk : Keeps S w w') (hs : ∀ k, S k → N k) (hb : ¬ S b) : RingX w' N b R :=
 let ⟨f, A, h1, h2, h3⟩ := h
 ⟨f, A, h1.keeps hk hb fun k ha hS => (h3 k ha).2 (hs k hS), h2, fun k ha => ⟨Nat.lt_of_lt_of_le (h3 k ha).1 hk.size, (h3 k ha).2⟩⟩
theorem RingX.ext {w w' : World} {N : Nat → Prop} {b : Nat} {R : AR} (h : RingX w N b R) (hk : Ext w w') : RingX w' N b R := h.keeps hk (fun _ h => (noB _ h).elim) (noB _)
theorem RingX.lt {w : World} {N : Nat → Prop} {b : Nat} {R : AR} (h : RingX w N b R) : b < w.heap.size := let ⟨_, _, h1, _⟩ := h; h1.lt
def ms (l : List It) : List (List UInt8) := (l.filter fun x => !x.side).map (·.bytes)
theorem ms_length (l : List It) : (ms l).length = mains l := by simp [ms, mains]
theorem ms_append (a b : List It) : ms (a ++ b) = ms a ++ ms b := by simp [ms]
theorem ms_side (x : It) (l : List It) (h : x.side = true) : ms (x :: l) = ms l := by simp [ms, h]
theorem ms_split (l : List It) (i : Nat) (h : i < l.length) (hi : l[i].side = true) : ms l = ms (l.take i) ++ ms (l.drop (i + 1)) := by
 have h1 : l.take i ++ l[i] :: l.drop (i + 1) = l := by rw [List.getElem_cons_drop, List.take_append_drop]
 have h2 : ms l = ms (l.take i ++ l[i] :: l.drop (i + 1)) := congrArg ms h1.symm; rw [h2, ms_append, ms_side _ _ hi]
theorem ms_set (l : List It) (i : Nat) (h : i < l.length) (x : It) (hx : x.side = true) (hi : l[i].side = true) : ms (l.set i x) = ms l := by
 rw [List.set_eq_take_append_cons_drop, if_pos h, ms_append, ms_side _ _ hx, ← ms_split l i h hi]
theorem ms_erase (l : List It) (i : Nat) (h : i < l.length) (hi : l[i].side = true) : ms (l.eraseIdx i) = ms l := by
 rw [List.eraseIdx_eq_take_drop_succ, ms_append, ← ms_split l i h hi]
theorem mains_all (l : List It) (h : l.findIdx? p34 = none) : mains l = l.length := by
 rw [List.findIdx?_eq_none_iff] at h; unfold mains; rw [List.filter_eq_self.2]; intro x hx; have := h x hx; unfold p34 at this; simp [this]
theorem mains_lt (l : List It) (i : Nat) (h : i < l.length) (hi : l[i].side = true) : mains l < l.length := by
 rw [← ms_length, ← ms_erase l i h hi, ms_length]; have := mains_le (l.eraseIdx i); rw [List.length_eraseIdx, if_pos h] at this; omega
theorem findIdx_at {p : It → Bool} {l : List It} {i : Nat} (h : l.findIdx? p = some i) : ∃ hi : i < l.length, p l[i] = true := by
 rw [List.findIdx?_eq_some_iff_getElem] at h; obtain ⟨h1, h2, _⟩ := h; exact ⟨h1, h2⟩
structure PutMain (R : AR) (x : It) (r : AR × Nat × Nat) : Prop where
 most : r.1.most = R.most
 lost : r.1.lost ≤ R.lost + 1
 sub : ∀ y ∈ r.1.items, y ∈ R.items ∨ y = x
 small : r.2.1 ≤ 1000 ∧ r.2.2 ≤ 1000
 other : ¬ (x.side = false ∧ x.key = 0) → ms r.1.items = ms R.items
 got : x.side = false → x.key = 0 → mains R.items < R.most → r.2.2 = 0 ∧ ms r.1.items = ms R.items ++ [x.bytes]
 full : x.side = false → x.key = 0 → ¬ mains R.items < R.most → r.2.2 = 350 ∧ ms r.1.items = ms R.items
theorem put_main (R : AR) (x : It) (hle : R.items.length ≤ R.most) (hx : x.bytes.length ≤ 1024) : PutMain R x (R.put x) := by
 unfold AR.put; by_cases h1 : (!x.side && x.key != 0) = true
 · rw [if_pos h1]
   rw [Bool.and_eq_true] at h1; have hs : x.side = false := by simpa using h1.1
   have hk : x.key ≠ 0 := by simpa using h1.2
   exact ⟨rfl, by dsimp only; omega, fun y hy => .inl hy, ⟨by dsimp only; omega, by dsimp only; omega⟩, fun _ => rfl, fun _ h _ => (hk h).elim, fun _ h _ => (hk h).elim⟩
 · rw [if_neg h1, if_neg (by omega)]
   cases h33 : R.items.findIdx? (p33 x) with
   | some i =>
     obtain ⟨hi, hp⟩ := findIdx_at h33; unfold p33 at hp; simp only [Bool.and_eq_true] at hp; obtain ⟨⟨hxs, his⟩, _⟩ := hp; refine ⟨rfl, Nat.le_refl _, fun y hy => ?_, ⟨by dsimp only; omega, by dsimp only; omega⟩, fun _ => ms_set _ _ hi _ hxs his, fun h => ?_, fun h => ?_⟩
     · rcases List.mem_or_eq_of_mem_set hy with h | h
       · exact .inl h
       · exact .inr h
     · rw [hxs] at h; cases h
     · rw [hxs] at h; cases h
   | none =>
     dsimp only; by_cases hroom : R.items.length < R.most
     · rw [if_pos hroom]
       have hm := mains_le R.items; refine ⟨rfl, by dsimp only; omega, fun y hy => ?_, ⟨by dsimp only; omega, by dsimp only; omega⟩, fun h => ?_, fun hs _ _ => ⟨rfl, ?_⟩, fun _ _ h => by omega⟩
       · rcases List.mem_append.1 hy with h | h
         · exact .inl h
         · exact .inr (List.mem_singleton.1 h)
       · rw [ms_append]
         have hxs : x.side = true := by
          cases hs : x.side with
          | true => rfl
          | false =>
            by_cases hk : x.key = 0
            · exact (h ⟨hs, hk⟩).elim
            · exact (h1 (by simp [hs, hk])).elim
         simp [ms, hxs]
       · rw [ms_append]
         simp [ms, hs]
     · rw [if_neg hroom]
       cases h34 : R.items.findIdx? p34 with
       | some i =>
         obtain ⟨hi, hp⟩ := findIdx_at h34; unfold p34 at hp; have hml := mains_lt R.items i hi hp; refine ⟨rfl, Nat.le_refl _, fun y hy => ?_, ⟨by dsimp only; omega, by dsimp only; omega⟩, fun h => ?_, fun hs _ _ => ⟨rfl, ?_⟩, fun _ _ h => by omega⟩
         · rcases List.mem_append.1 hy with h | h
           · exact .inl (List.mem_of_mem_eraseIdx h)
           · exact .inr (List.mem_singleton.1 h)
         · rw [ms_append, ms_erase _ _ hi hp]
           have hxs : x.side = true := by
            cases hs : x.side with
            | true => rfl
            | false =>
              by_cases hk : x.key = 0
              · exact (h ⟨hs, hk⟩).elim
              · exact (h1 (by simp [hs, hk])).elim
           simp [ms, hxs]
         · rw [ms_append, ms_erase _ _ hi hp]
           simp [ms, hs]
       | none =>
         have hml := mains_all R.items h34; dsimp only; cases hs : x.side with
         | true =>
           rw [if_pos rfl]; exact ⟨rfl, Nat.le_refl _, fun y hy => .inl hy, ⟨by dsimp only; omega, by dsimp only; omega⟩, fun _ => rfl, (fun h => by rw [hs] at h; cases h), fun h => by rw [hs] at h; cases h⟩
         | false =>
           rw [if_neg (by decide)]; exact ⟨rfl, by dsimp only; omega, fun y hy => .inl hy, ⟨by dsimp only; omega, by dsimp only; omega⟩, fun _ => rfl, fun _ _ h => by omega, fun _ _ _ => ⟨rfl, rfl⟩⟩
section
def RefV (w : World) (A : Nat → Prop) (v : Value) (R : AR) : Prop := ∃ sv, v = .agg #[.int .i64 (R.most : Int), sv, .int .i64 (R.lost : Int)] ∧ SlV A (ItemAt w A) 3 sv R.items
section
variable {w w' : World} {S A A' : Nat → Prop} {v : Value} {R : AR} {l : List It}
theorem SlV.itKeeps (h : SlV A (ItemAt w A) 3 v l) (hk : Keeps S w w') (hA : ∀ k, A k → ¬ S k) : SlV A (ItemAt w' A) 3 v l :=
 SlV.mono h (fun _ h => h) fun b o x hb hi => hi.keeps hk (hA b hb) hA
theorem SlV.itMono (h : SlV A (ItemAt w A) 3 v l) (hA : ∀ k, A k → A' k) : SlV A' (ItemAt w A') 3 v l :=
 SlV.mono h hA fun b o x hb hi => hi.mono hA
theorem SlV.itAt (h : SlV A (ItemAt w A) 3 v l) : ∃ a c, v = .slice a l.length c ∧ ∀ i (h : i < l.length), ∃ b o, a = some ⟨b, o, none⟩ ∧ l.length ≤ c ∧ A b ∧ ItemAt w A b (o + i * 3) l[i] := by
 rcases h with ⟨a, rfl, rfl⟩ | ⟨b, o, c, rfl, h1, h2, h3⟩
 · exact ⟨_, _, rfl, fun i hi => by simp at hi⟩
 · exact ⟨_, _, rfl, fun i hi => ⟨b, o, rfl, h1, h2, h3 i hi⟩⟩
theorem RefV.keeps (h : RefV w A v R) (hk : Keeps S w w') (hA : ∀ k, A k → ¬ S k) : RefV w' A v R :=
 let ⟨sv, h1, h2⟩ := h
 ⟨sv, h1, h2.itKeeps hk hA⟩
theorem RefV.ext (h : RefV w A v R) (hk : Ext w w') : RefV w' A v R := h.keeps hk fun _ _ => noB _
theorem RefV.mono (h : RefV w A v R) (hA : ∀ k, A k → A' k) : RefV w A' v R :=
 let ⟨sv, h1, h2⟩ := h
 ⟨sv, h1, h2.itMono hA⟩
end
end

theorem ItemEn.keeps {S A : Nat → Prop} {w w' : World} {c : List Value} {x : It} (h : ItemEn w A c x) (hk : Keeps S w w') (hA : ∀ k, A k → ¬ S k) : ItemEn w' A c x :=
 let ⟨bv, h1, h2⟩ := h
 ⟨bv, h1, h2.keeps hk hA⟩
theorem ItemEn.mono {A A' : Nat → Prop} {w : World} {c : List Value} {x : It} (h : ItemEn w A c x) (hA : ∀ k, A k → A' k) : ItemEn w A' c x :=
 let ⟨bv, h1, h2⟩ := h
 ⟨bv, h1, h2.mono hA⟩
theorem ItemEn.one {A : Nat → Prop} {w : World} {c : List Value} {x : It} (h : ItemEn w A c x) : ∀ u ∈ c, u.oneCell' = true := by
 obtain ⟨bv, rfl, hb⟩ := h; obtain ⟨a, n, rfl⟩ := hb.len; intro u hu; simp at hu; rcases hu with rfl | rfl | rfl <;> rfl
theorem ItemAt.en {A : Nat → Prop} {w : World} {b o : Nat} {x : It} (h : ItemAt w A b o x) : ∃ c, ItemEn w A c x ∧ c.length = 3 ∧ ∀ j, j < 3 → w.cell? ⟨b, o + j, none⟩ = c[j]? := by
 obtain ⟨i1, i2, bv, i3, i4⟩ := h; refine ⟨_, ⟨bv, rfl, i4⟩, rfl, fun j hj => ?_⟩; match j, hj with
 | 0, _ => exact i1
 | 1, _ => exact i2
 | 2, _ => exact i3
def RPutPost (w : World) (A : Nat → Prop) (R : AR) (x : It) (e : Ending) (w' : World) : Prop :=
 ∃ v', e = .returned (.tuple #[v', .int .i64 ((R.put x).2.1 : Nat), .int .i64 ((R.put x).2.2 : Nat)]) ∧ RefV w' (fun k => A k ∨ (w.heap.size ≤ k ∧ k < w'.heap.size)) v' (R.put x).1 ∧ Ext w w'
theorem RPutPost.mk {w w' : World} {A : Nat → Prop} {R R' : AR} {x : It} {v' : Value} {n m : Nat} (hR : R.put x = (R', n, m)) (h : RefV w' (fun k => A k ∨ (w.heap.size ≤ k ∧ k < w'.heap.size)) v' R') (hk : Ext w w') :
 RPutPost w A R x (.returned (.tuple #[v', .int .i64 (n : Int), .int .i64 (m : Int)])) w' := by
 unfold RPutPost; rw [hR]; exact ⟨_, rfl, h, hk⟩


section
def RefX (w : World) (M : Nat → Prop) (v : Value) (R : AR) : Prop := ∃ A, RefV w A v R ∧ ∀ k, A k → k < w.heap.size ∧ ¬ M k
section
variable {w w' : World} {S M M' : Nat → Prop} {v : Value} {R : AR}
theorem RefX.keeps (h : RefX w M v R) (hk : Keeps S w w') (hs : ∀ k, k < w.heap.size → S k → M k) : RefX w' M v R :=
 let ⟨A, h1, h2⟩ := h
 ⟨A, h1.keeps hk fun k ha hS => (h2 k ha).2 (hs k (h2 k ha).1 hS), fun k ha => ⟨Nat.lt_of_lt_of_le (h2 k ha).1 hk.size, (h2 k ha).2⟩⟩
theorem RefX.ext (h : RefX w M v R) (hk : Ext w w') : RefX w' M v R := h.keeps hk fun _ _ h => (noB _ h).elim
theorem RefX.of {A : Nat → Prop} (h : RefV w A v R) (hA : ∀ k, A k → k < w.heap.size ∧ ¬ M k) : RefX w M v R := ⟨A, h, hA⟩
theorem RefX.put {w0 : World} {A : Nat → Prop} (h : RefV w (fun k => A k ∨ (w0.heap.size ≤ k ∧ k < w.heap.size)) v R) (hA : ∀ k, A k → k < w0.heap.size ∧ ¬ M k) (hM : ∀ k, M k → k < w0.heap.size) (hs : w0.heap.size ≤ w.heap.size) : RefX w M v R :=
 ⟨_, h, fun k hk => by
  rcases hk with hk | hk
  · exact ⟨Nat.lt_of_lt_of_le (hA k hk).1 hs, (hA k hk).2⟩
  · exact ⟨hk.2, fun hm => absurd (hM k hm) (by omega)⟩⟩
theorem RefX.len (h : RefX w M v R) : ∃ a c, v = .agg #[.int .i64 (R.most : Int), .slice a R.items.length c, .int .i64 (R.lost : Int)] := by
 obtain ⟨A, ⟨sv, rfl, hs⟩, -⟩ := h; obtain ⟨a, c, rfl, -⟩ := hs.itAt; exact ⟨_, _, rfl⟩
end
theorem RefX.itAt {w : World} {M : Nat → Prop} {R : AR} {a : Option Addr} {n c : Nat} {z0 z1 : Value} (h : RefX w M (.agg #[z0, .slice a n c, z1]) R) :
 n = R.items.length ∧ ∀ i (hi : i < R.items.length), ∃ A b o, a = some ⟨b, o, none⟩ ∧ R.items.length ≤ c ∧ b < w.heap.size ∧ ItemAt w A b (o + i * 3) R.items[i] := by
 obtain ⟨A, ⟨sv, he, hs⟩, hA⟩ := h; obtain ⟨a', c', rfl, hat⟩ := hs.itAt; simp only [Value.agg.injEq, Array.mk.injEq, List.cons.injEq, Value.slice.injEq] at he; obtain ⟨-, ⟨rfl, rfl, rfl⟩, -⟩ := he; refine ⟨rfl, fun i hi => ?_⟩; obtain ⟨b, o, h1, h2, h3, h4⟩ := hat i hi; exact ⟨A, b, o, h1, h2, (hA b h3).1, h4⟩
end

section
attribute [local go_sem] Oper.semAt_some
end
section
attribute [local go_sem] Oper.semAt_some
theorem SeqAt.lt {w : World} {A : Nat → Prop} {bx : Nat} {l : List It} (h : SeqAt w A bx l) : bx < w.heap.size := let ⟨_, h1, _⟩ := h; World.block_lt_of_cell? _ _ h1
end
section
attribute [local go_sem] Oper.semAt_some
end

end Go.Proofs.YtoadjbgpfihoiaaGreatDoor
