/- Texts RMain, RefE, RefF, RefX, Same, Collect, Copy, CopyB, RSame, RR, RingI, one behind the other. Conditions: as each says. -/
import Derived.Test.YtoadjbgpfihoiaaGreatDoorTeS
import Derived.Test.YtoadjbgpfihoiaaGreatDoorTeT
import Derived.BigFrameIn
import Derived.RegionTactic
set_option linter.unusedVariables false
set_option linter.unusedSimpArgs false
set_option maxHeartbeats 8000000
set_option maxRecDepth 100000
namespace Go.Proofs.YtoadjbgpfihoiaaGreatDoor
open Go.RowKit
def ms (l : List It) : List (List UInt8) := (l.filter fun x => !x.side).map (·.bytes)
theorem ms_length (l : List It) : (ms l).length = mains l := by simp [ms, mains]
theorem ms_append (a b : List It) : ms (a ++ b) = ms a ++ ms b := by simp [ms]
theorem ms_side (x : It) (l : List It) (h : x.side = true) : ms (x :: l) = ms l := by simp [ms, h]
theorem ms_split (l : List It) (i : Nat) (h : i < l.length) (hi : l[i].side = true) : ms l = ms (l.take i) ++ ms (l.drop (i + 1)) := by
 have h1 : l.take i ++ l[i] :: l.drop (i + 1) = l := by rw [List.getElem_cons_drop, List.take_append_drop]
 have h2 : ms l = ms (l.take i ++ l[i] :: l.drop (i + 1)) := congrArg ms h1.symm; rw [h2, ms_append, ms_side _ _ hi]
theorem ms_set (l : List It) (i : Nat) (h : i < l.length) (x : It) (hx : x.side = true) (hi : l[i].side = true) : ms (l.set i x) = ms l := by
 rw [List.set_eq_take_append_cons_drop, if_pos h, ms_append, ms_side _ _ hx, ← ms_split l i h hi]
theorem ms_erase (l : List It) (i : Nat) (h : i < l.length) (hi : l[i].side = true) : ms (l.eraseIdx i) = ms l := by
 rw [List.eraseIdx_eq_take_drop_succ, ms_append, ← ms_split l i h hi]
theorem mains_all (l : List It) (h : l.findIdx? p34 = none) : mains l = l.length := by
 rw [List.findIdx?_eq_none_iff] at h; unfold mains; rw [List.filter_eq_self.2]; intro x hx; have := h x hx; unfold p34 at this; simp [this]
theorem mains_lt (l : List It) (i : Nat) (h : i < l.length) (hi : l[i].side = true) : mains l < l.length := by
 rw [← ms_length, ← ms_erase l i h hi, ms_length]; have := mains_le (l.eraseIdx i); rw [List.length_eraseIdx, if_pos h] at this; omega
theorem findIdx_at {p : It → Bool} {l : List It} {i : Nat} (h : l.findIdx? p = some i) : ∃ hi : i < l.length, p l[i] = true := by
 rw [List.findIdx?_eq_some_iff_getElem] at h; obtain ⟨h1, h2, _⟩ := h; exact ⟨h1, h2⟩
structure PutMain (R : AR) (x : It) (r : AR × Nat × Nat) : Prop where
 most : r.1.most = R.most
 lost : r.1.lost ≤ R.lost + 1
 sub : ∀ y ∈ r.1.items, y ∈ R.items ∨ y = x
 small : r.2.1 ≤ 1000 ∧ r.2.2 ≤ 1000
 other : ¬ (x.side = false ∧ x.key = 0) → ms r.1.items = ms R.items
 got : x.side = false → x.key = 0 → mains R.items < R.most → r.2.2 = 0 ∧ ms r.1.items = ms R.items ++ [x.bytes]
 full : x.side = false → x.key = 0 → ¬ mains R.items < R.most → r.2.2 = 350 ∧ ms r.1.items = ms R.items
theorem put_main (R : AR) (x : It) (hle : R.items.length ≤ R.most) (hx : x.bytes.length ≤ 1024) : PutMain R x (R.put x) := by
 unfold AR.put; by_cases h1 : (!x.side && x.key != 0) = true
 · rw [if_pos h1]
   rw [Bool.and_eq_true] at h1; have hs : x.side = false := by simpa using h1.1
   have hk : x.key ≠ 0 := by simpa using h1.2
   exact ⟨rfl, by dsimp only; omega, fun y hy => .inl hy, ⟨by dsimp only; omega, by dsimp only; omega⟩, fun _ => rfl, fun _ h _ => (hk h).elim, fun _ h _ => (hk h).elim⟩
 · rw [if_neg h1, if_neg (by omega)]
   cases h33 : R.items.findIdx? (p33 x) with
   | some i =>
     obtain ⟨hi, hp⟩ := findIdx_at h33; unfold p33 at hp; simp only [Bool.and_eq_true] at hp; obtain ⟨⟨hxs, his⟩, _⟩ := hp; refine ⟨rfl, Nat.le_refl _, fun y hy => ?_, ⟨by dsimp only; omega, by dsimp only; omega⟩, fun _ => ms_set _ _ hi _ hxs his, fun h => ?_, fun h => ?_⟩
     · rcases List.mem_or_eq_of_mem_set hy with h | h
       · exact .inl h
       · exact .inr h
     · rw [hxs] at h; cases h
     · rw [hxs] at h; cases h
   | none =>
     dsimp only; by_cases hroom : R.items.length < R.most
     · rw [if_pos hroom]
       have hm := mains_le R.items; refine ⟨rfl, by dsimp only; omega, fun y hy => ?_, ⟨by dsimp only; omega, by dsimp only; omega⟩, fun h => ?_, fun hs _ _ => ⟨rfl, ?_⟩, fun _ _ h => by omega⟩
       · rcases List.mem_append.1 hy with h | h
         · exact .inl h
         · exact .inr (List.mem_singleton.1 h)
       · rw [ms_append]
         have hxs : x.side = true := by
          cases hs : x.side with
          | true => rfl
          | false =>
            by_cases hk : x.key = 0
            · exact (h ⟨hs, hk⟩).elim
            · exact (h1 (by simp [hs, hk])).elim
         simp [ms, hxs]
       · rw [ms_append]
         simp [ms, hs]
     · rw [if_neg hroom]
       cases h34 : R.items.findIdx? p34 with
       | some i =>
         obtain ⟨hi, hp⟩ := findIdx_at h34; unfold p34 at hp; have hml := mains_lt R.items i hi hp; refine ⟨rfl, Nat.le_refl _, fun y hy => ?_, ⟨by dsimp only; omega, by dsimp only; omega⟩, fun h => ?_, fun hs _ _ => ⟨rfl, ?_⟩, fun _ _ h => by omega⟩
         · rcases List.mem_append.1 hy with h | h
           · exact .inl (List.mem_of_mem_eraseIdx h)
           · exact .inr (List.mem_singleton.1 h)
         · rw [ms_append, ms_erase _ _ hi hp]
           have hxs : x.side = true := by
            cases hs : x.side with
            | true => rfl
            | false =>
              by_cases hk : x.key = 0
              · exact (h ⟨hs, hk⟩).elim
              · exact (h1 (by simp [hs, hk])).elim
           simp [ms, hxs]
         · rw [ms_append, ms_erase _ _ hi hp]
           simp [ms, hs]
       | none =>
         have hml := mains_all R.items h34; dsimp only; cases hs : x.side with
         | true =>
           rw [if_pos rfl]; exact ⟨rfl, Nat.le_refl _, fun y hy => .inl hy, ⟨by dsimp only; omega, by dsimp only; omega⟩, fun _ => rfl, (fun h => by rw [hs] at h; cases h), fun h => by rw [hs] at h; cases h⟩
         | false =>
           rw [if_neg (by decide)]; exact ⟨rfl, by dsimp only; omega, fun y hy => .inl hy, ⟨by dsimp only; omega, by dsimp only; omega⟩, fun _ => rfl, fun _ _ h => by omega, fun _ _ _ => ⟨rfl, rfl⟩⟩


section
def RefX (w : World) (M : Nat → Prop) (v : Value) (R : AR) : Prop := ∃ A, RefV w A v R ∧ ∀ k, A k → k < w.heap.size ∧ ¬ M k
section
variable {w w' : World} {S M M' : Nat → Prop} {v : Value} {R : AR}
theorem RefX.keeps (h : RefX w M v R) (hk : Keeps S w w') (hs : ∀ k, k < w.heap.size → S k → M k) : RefX w' M v R :=
 let ⟨A, h1, h2⟩ := h
 ⟨A, h1.keeps hk fun k ha hS => (h2 k ha).2 (hs k (h2 k ha).1 hS), fun k ha => ⟨Nat.lt_of_lt_of_le (h2 k ha).1 hk.size, (h2 k ha).2⟩⟩
theorem RefX.ext (h : RefX w M v R) (hk : Ext w w') : RefX w' M v R := h.keeps hk fun _ _ h => (noB _ h).elim
theorem RefX.of {A : Nat → Prop} (h : RefV w A v R) (hA : ∀ k, A k → k < w.heap.size ∧ ¬ M k) : RefX w M v R := ⟨A, h, hA⟩
theorem RefX.put {w0 : World} {A : Nat → Prop} (h : RefV w (fun k => A k ∨ (w0.heap.size ≤ k ∧ k < w.heap.size)) v R) (hA : ∀ k, A k → k < w0.heap.size ∧ ¬ M k) (hM : ∀ k, M k → k < w0.heap.size) (hs : w0.heap.size ≤ w.heap.size) : RefX w M v R :=
 ⟨_, h, fun k hk => by
  rcases hk with hk | hk
  · exact ⟨Nat.lt_of_lt_of_le (hA k hk).1 hs, (hA k hk).2⟩
  · exact ⟨hk.2, fun hm => absurd (hM k hm) (by omega)⟩⟩
theorem RefX.len (h : RefX w M v R) : ∃ a c, v = .agg #[.int .i64 (R.most : Int), .slice a R.items.length c, .int .i64 (R.lost : Int)] := by
 obtain ⟨A, ⟨sv, rfl, hs⟩, -⟩ := h; obtain ⟨a, c, rfl, -⟩ := hs.itAt; exact ⟨_, _, rfl⟩
end
theorem RefX.itAt {w : World} {M : Nat → Prop} {R : AR} {a : Option Addr} {n c : Nat} {z0 z1 : Value} (h : RefX w M (.agg #[z0, .slice a n c, z1]) R) :
 n = R.items.length ∧ ∀ i (hi : i < R.items.length), ∃ A b o, a = some ⟨b, o, none⟩ ∧ R.items.length ≤ c ∧ b < w.heap.size ∧ ItemAt w A b (o + i * 3) R.items[i] := by
 obtain ⟨A, ⟨sv, he, hs⟩, hA⟩ := h; obtain ⟨a', c', rfl, hat⟩ := hs.itAt; simp only [Value.agg.injEq, Array.mk.injEq, List.cons.injEq, Value.slice.injEq] at he; obtain ⟨-, ⟨rfl, rfl, rfl⟩, -⟩ := he; refine ⟨rfl, fun i hi => ?_⟩; obtain ⟨b, o, h1, h2, h3, h4⟩ := hat i hi; exact ⟨A, b, o, h1, h2, (hA b h3).1, h4⟩
end

section
attribute [local go_sem] Oper.semAt_some
end
section
attribute [local go_sem] Oper.semAt_some
theorem SeqAt.lt {w : World} {A : Nat → Prop} {bx : Nat} {l : List It} (h : SeqAt w A bx l) : bx < w.heap.size := let ⟨_, h1, _⟩ := h; World.block_lt_of_cell? _ _ h1
end
section
attribute [local go_sem] Oper.semAt_some
end

def ringR (b : Nat) (R : AR) : Res := anyR (fun F w => ∃ f A, RingAt w A b f R ∧ ¬ A b ∧ (∀ k, A k → k < w.heap.size) ∧ ∀ k, F k ↔ A k ∨ k = b)
 (fun ⟨f, A, h1, h2, h3, h4⟩ hk hs => ⟨f, A, h1.keeps hk (hs b ((h4 b).2 (.inr rfl))) (fun k ha => hs k ((h4 k).2 (.inl ha))), h2, fun k ha => Nat.lt_of_lt_of_le (h3 k ha) hk.size, h4⟩)
 (fun ⟨f, A, h1, h2, h3, h4⟩ k hk => ((h4 k).1 hk).elim (h3 k) fun e => e ▸ h1.lt)
theorem ringR.x {b : Nat} {R : AR} {C : Nat → Prop} {w : World} (h : (ringR b R).p C w) : RingX w (fun k => ¬ C k) b R :=
 let ⟨f, A, h1, h2, h3, h4⟩ := h
 ⟨f, A, h1, h2, fun k hk => ⟨h3 k hk, fun hn => hn ((h4 k).2 (.inl hk))⟩⟩
theorem ringR.own {b : Nat} {R : AR} {C : Nat → Prop} {w : World} (h : (ringR b R).p C w) : C b := let ⟨f, A, h1, h2, h3, h4⟩ := h; (h4 b).2 (.inr rfl)
theorem ringR.upd {b : Nat} {R' : AR} {C A A' : Nat → Prop} {f' : Nat} {w w' : World} (hC : ∀ k, C k ↔ A k ∨ k = b) (hb : ¬ A' b) (hA' : ∀ k, A' k → A k ∨ (w.heap.size ≤ k ∧ k < w'.heap.size)) (hA : ∀ k, A k → k < w.heap.size)
 (h : RingAt w' A' b f' R') (hk : Keeps (OneB b) w w') : Upd C w w' (ringR b R') :=
 ⟨fun k => A' k ∨ k = b, ⟨f', A', h, hb, fun k hk' => (hA' k hk').elim (fun g => Nat.lt_of_lt_of_le (hA k g) hk.size) (·.2), fun k => Iff.rfl⟩, hk.mono fun k _ h => (hC k).2 (.inr h), fun k hk' => by
  rcases hk' with hk' | hk'
  · exact (hA' k hk').elim (fun g => .inl ((hC k).2 (.inl g))) fun g => .inr g.1
  · exact .inl ((hC k).2 (.inr hk'))⟩
theorem put_r {C B : Nat → Prop} (w : World) (b : Nat) (R : AR) (x : It) (v : Value) (h : (ringR b R).p C w) (hv : ItemV w B v x) (hB : ¬ B b) (hx : x.bytes.length ≤ 1000000) (hlost : R.lost ≤ 1000000) :
 Calls Tryz.prog 93 #[.pointer (some ⟨b, 0, none⟩), v] w fun e w' => e = .returned (.tuple #[.int .i64 ((R.put x).2.1 : Nat), .int .i64 ((R.put x).2.2 : Nat)]) ∧ Upd C w w' (ringR b (R.put x).1) := by
 obtain ⟨f, A, h1, h2, h3, h4⟩ := h; have hbl := h1.lt; refine (put_ring w b f R x v h1 h2 hv hB hx hlost).mono fun e w' ⟨e1, e2, e3⟩ => ⟨e1, ringR.upd h4 ?_ (fun k hk => hk) h3 e2 e3⟩
 rintro (hk | hk)
 · exact h2 hk
 · omega
theorem take_r {C : Nat → Prop} (w : World) (b m l : Nat) (x : It) (r : List It) (h : (ringR b ⟨m, l, x :: r⟩).p C w) :
 Calls Tryz.prog 108 #[.pointer (some ⟨b, 0, none⟩)] w fun e w' => ∃ v, e = .returned (.tuple #[v, .bool true]) ∧ ItemV w' (fun k => C k ∧ k ≠ b) v x ∧ Upd C w w' (ringR b ⟨m, l, r⟩) := by
 obtain ⟨f, A, h1, h2, h3, h4⟩ := h; refine (take_ring w b f m l x r h1 h2 h3).mono fun e w' ⟨v, e1, e2, e3, e4⟩ => ⟨v, e1, e2.mono fun k hk => ⟨(h4 k).2 (.inl hk), fun e => h2 (e ▸ hk)⟩, ringR.upd h4 h2 (fun k hk => .inl hk) h3 e3 e4⟩
theorem take_r0 {C : Nat → Prop} (w : World) (b m l : Nat) (h : (ringR b ⟨m, l, []⟩).p C w) :
 Calls Tryz.prog 108 #[.pointer (some ⟨b, 0, none⟩)] w fun e w' => e = .returned (.tuple #[.agg #[.bool false, .int .i64 0, .slice none 0 0], .bool false]) ∧ Ext w w' := by
 obtain ⟨f, A, h1, h2, h3, h4⟩ := h; exact take_empty w b f m l h1
theorem clear_r {C : Nat → Prop} (w : World) (b m l : Nat) (its : List It) (h : (ringR b ⟨m, l, its⟩).p C w) :
 Calls Tryz.prog 103 #[.pointer (some ⟨b, 0, none⟩)] w fun e w' => e = .returned (.int .i64 (its.length : Nat)) ∧ Upd C w w' (ringR b ⟨m, l, []⟩) := by
 obtain ⟨f, A, h1, h2, h3, h4⟩ := h; exact (clear_ring w b f m l its h1 h2 h3).mono fun e w' ⟨e1, ⟨f', e2⟩, e3⟩ => ⟨e1, ringR.upd h4 h2 (fun k hk => .inl hk) h3 e2 e3⟩
theorem len_r {C : Nat → Prop} (w : World) (b : Nat) (R : AR) (h : (ringR b R).p C w) (hx : ∀ x ∈ R.items, x.bytes.length ≤ 1000000) :
 Calls Tryz.prog 104 #[.pointer (some ⟨b, 0, none⟩)] w (LenPost w R.items) := by
 obtain ⟨f, A, h1, h2, h3, h4⟩ := h; exact len_ring w b f R h1 hx
theorem new_r (w : World) (m : Nat) (h1 : 1 ≤ m) (h2 : m ≤ 64) :
 Calls Tryz.prog 76 #[.int .i64 (m : Int)] w fun e w' => ∃ b, e = .returned (.tuple #[.pointer (some ⟨b, 0, none⟩), .int .i64 0]) ∧ Upd NoB w w' (ringR b ⟨m, 0, []⟩) :=
 (new_yes w m h1 h2).mono fun e w' ⟨e1, e2, e3⟩ => ⟨_, e1, fun k => False ∨ k = w.heap.size, ⟨0, _, e2, fun h => h, fun _ h => h.elim, fun k => Iff.rfl⟩, e3, fun k hk => by
  rcases hk with hk | hk
  · exact hk.elim
  · exact .inr (by omega)⟩
def seqR (bx : Nat) (l : List It) : Res := anyR (fun F w => ∃ A, SeqAt w A bx l ∧ (∀ k, A k → k < w.heap.size) ∧ ∀ k, F k ↔ A k ∨ k = bx)
 (fun ⟨A, h1, h2, h3⟩ hk hs => ⟨A, h1.keeps hk (hs bx ((h3 bx).2 (.inr rfl))) (fun k ha => hs k ((h3 k).2 (.inl ha))), fun k ha => Nat.lt_of_lt_of_le (h2 k ha) hk.size, h3⟩)
 (fun ⟨A, h1, h2, h3⟩ k hk => ((h3 k).1 hk).elim (h2 k) fun e => e ▸ h1.lt)
theorem all_r {C : Nat → Prop} (w : World) (b : Nat) (R : AR) (h : (ringR b R).p C w) (hx : ∀ x ∈ R.items, x.bytes.length ≤ 1000000) :
 Calls Tryz.prog 167 #[.pointer (some ⟨b, 0, none⟩)] w fun e w' => ∃ bx, e = .returned (.func (.func 217) #[] #[.pointer (some ⟨bx, 0, none⟩)]) ∧ Upd NoB w w' (seqR bx R.items) := by
 obtain ⟨f, A, h1, h2, h3, h4⟩ := h; refine (all_ring w b f R h1 hx).mono fun e w' ⟨e1, e2, e3⟩ => ⟨_, e1, fun k => (w.heap.size ≤ k ∧ k < w'.heap.size) ∨ k = w.heap.size, ⟨_, e2, fun k hk => hk.2, fun k => Iff.rfl⟩, e3, fun k hk => .inr ?_⟩
 rcases hk with hk | hk
 · exact hk.1
 · omega
section
attribute [local go_sem] Oper.semAt_some
def seqV (bx : Nat) (sv : Value) (l : List It) : Res := anyR (fun F w => w.cell? ⟨bx, 0, none⟩ = some sv ∧ F bx ∧ SlV F (ItemAt w F) 3 sv l ∧ ∀ k, F k → k < w.heap.size)
 (fun ⟨h1, h2, h3, h4⟩ hk hs => ⟨hk.cell (hs _ h2) h1, h2, SlV.mono h3 (fun _ h => h) fun b o x hb hi => hi.keeps hk (hs b hb) hs, fun k hF => Nat.lt_of_lt_of_le (h4 k hF) hk.size⟩) (fun h => h.2.2.2)
theorem seqV_of {bx : Nat} {l : List It} {A : Nat → Prop} {w : World} (h : (seqR bx l).p A w) : ∃ sv, (seqV bx sv l).p A w := by
 obtain ⟨B, ⟨sv, h1, h2⟩, h3, h4⟩ := h; have hb : ∀ k, B k → A k := fun k hk => (h4 k).2 (.inl hk)
 exact ⟨sv, h1, (h4 bx).2 (.inr rfl), SlV.mono h2 hb fun b o x _ hi => hi.mono hb, fun k hk => ((h4 k).1 hk).elim (h3 k) fun e => e ▸ World.block_lt_of_cell? _ _ h1⟩
def itemR (v : Value) (x : It) : Res := anyR (fun F w => ItemV w F v x ∧ ∀ k, F k → k < w.heap.size) (fun h hk hs => ⟨h.1.keeps hk hs, fun k hF => Nat.lt_of_lt_of_le (h.2 k hF) hk.size⟩) (fun h => h.2)
def ItRv (x : It) (v : Array Value) (F : Nat → Prop) (w : World) : Prop := ∃ y B, v = #[y] ∧ ItemV w B y x ∧ ∀ k, B k → ¬ F k ∧ k < w.heap.size
theorem itRv_ok : RvOK ItRv where
 step := fun ⟨y, B, h1, h2, h3⟩ hk hg => ⟨y, B, h1, h2.keeps hk fun k hB hF => (h3 k hB).1 hF, fun k hB => ⟨fun hG => (hg k hG).elim (h3 k hB).1 (by have := (h3 k hB).2; omega), Nat.lt_of_lt_of_le (h3 k hB).2 hk.size⟩⟩
theorem iter_items (bx : Nat) (sv : Value) (l : List It) (hx : ∀ x ∈ l, x.bytes.length ≤ 1000000) (hl : l.length ≤ 1000) :
 IterR Fence.wide 8 Tryz.prog 217 #[.pointer (some ⟨bx, 0, none⟩)] l ItRv NoX (seqV bx sv l) (seqV bx sv l) := by
 intro ll R Rx W A h0 _ hround; have hm1 := Mem.ofSep h0; obtain ⟨A0, hA0⟩ := hm1.get (r := seqV bx sv l) .here
 obtain ⟨a, c, rfl⟩ : ∃ a c, sv = .slice a l.length c := by
  rcases hA0.2.2.1 with ⟨a, rfl, rfl⟩ | ⟨b, o, c, rfl, _⟩
  · exact ⟨_, _, rfl⟩
  · exact ⟨_, _, rfl⟩
 have c0 := hA0.1; have hbx := World.block_lt_of_cell? _ _ c0; have HM := Hd hm1; have HR := Hd hround; have HX := Hd hx; clear h0 hround hm1 hA0 hx; clear A0; refine callsIn_of_wp Tryz.func217 rfl trivial ?_ rfl; simp only [Tryz.ntmps217, List.size_toArray, List.length_cons, List.length_nil, Nat.reduceAdd, Nat.reduceSub, Array.replicate_succ, Array.replicate_zero, List.push_toArray, List.append_toArray, List.nil_append, List.cons_append]; refine wpIn_scope ?_; gi_wp2
 refine wpIn_label ?_; gi_wp2_with fail
 gi_loopw [7] (fun t wr => ∃ k : Nat, k ≤ l.length ∧ t = .int .i64 k ∧ Hid (Mem A W wr [seqV bx (.slice a l.length c) l, R k])) (fun t _ => l.length - (intOf t).toNat)
 case atStart => exact ⟨0, by omega, rfl, HM⟩
 case round =>
  clear HM; obtain ⟨k, hk, rfl, HM⟩ := hrel; by_cases hlt : k < l.length
  · obtain ⟨A1, hA1⟩ := HM.out.get (r := seqV bx (.slice a l.length c) l) pk
    rcases hA1.2.2.1 with ⟨_, _, h0'⟩ | ⟨b, o, c', hsv, hlc, hAb, hat⟩
    · exact absurd hlt (by rw [h0']; simp)
    · injection hsv with hsv1 hsv2 hsv3
      subst hsv1 hsv3; obtain ⟨i1, i2, bv, i3, i4⟩ := hat k hlt; obtain ⟨a2, c2, rfl⟩ := i4.len; have hxk := HX.out _ (List.getElem_mem hlt); have HYK := Hd (HR.out k hlt); generalize l[k] = x at *
      have hlw := World.block_lt_of_cell? _ _ i1; have HI := Hd i4; have hl' : l.length ≤ c := hlc; have g1 : (k : Int) < l.length := by omega
      clear i4 hat hlc hA1; gi_wp2_with fail
      refine ⟨trivial, callsIn_wide.2 ((told_any (A := A1) _ x _ ⟨_, rfl, HI.out.ext ((Keeps.refl _ _).alloc _)⟩ hxk).mono ?_)⟩; rintro e W2 ⟨v', rfl, hv', hW⟩; have hm2 := (HM.out.ext ((Keeps.refl NoB wr).alloc (Obj.cells #[Value.bool x.side, Value.int .i64 x.key, Value.slice a2 x.bytes.length c2] 152))).new (r := itemR v' x) hW ⟨hv', fun k hk => hk.2⟩ (fun k hk => hk.1); replace HM := Hd hm2; clear hm2 hv' hW; obtain ⟨F1, B, hF1, hB, hd, hFA, hS⟩ := HM.out.beside (r := R k) (x := itemR v' x) pk pk; obtain ⟨fn, tmps, assign, body, hy, hRd⟩ := HYK.out #[v'] W2 F1 hFA hF1 ⟨v', B, rfl, hB.1, fun j hj => ⟨hd j hj, hB.2 j hj⟩⟩; have HRd := Hd hRd; have HSS := Hd hS; clear hRd hS hd hB hF1 hFA; gi_wp2_with fail
      refine (roundIn_wide HRd.out).mono ?_; rintro e W3 (⟨rfl, hU⟩ | ⟨rfl, hU⟩)
      · replace HM := Hd (HSS.out _ _ hU)
        clear hU HSS hy HRd; gi_wp2_with fail
        go_roundw
        case rel => exact ⟨k + 1, by omega, by go_num, Hd (Mem.sub HM.out sbI)⟩
        case measure => simp [intOf]; omega
      · replace HM := Hd (HSS.out _ _ hU)
        clear hU HSS hy HRd; gi_wp2_with fail
        rw [Exit.noGoto_normal]; refine bodyPost_end (results_none rfl _ _ _) rfl ?_; exact ⟨⟨_, rfl⟩, _, .inr ⟨k, hlt, rfl⟩, (Mem.sub (L' := [seqV bx (.slice (some ⟨b, o, none⟩) l.length c) l, Rx (k + 1)]) HM.out sbI).updAll⟩
  · obtain rfl : k = l.length := by omega
    gi_wp2_with fail
    rw [Exit.noGoto_normal]; refine bodyPost_end (results_none rfl _ _ _) rfl ?_; exact ⟨⟨_, rfl⟩, _, .inl rfl, HM.out.updAll⟩
end
end Go.Proofs.YtoadjbgpfihoiaaGreatDoor
