/- A slice that the call owns from any offset on ('Win'): append onto it, and what is cut off it. Conditions: it lies as 'Win' says. -/
import Derived.Test.YthhdgjofagdjeaaDoorRows
import Derived.Test.YthhdgjofagdjeaaDoorBase
import Derived.Deep.Upon
import Derived.Deep.MidRow
set_option linter.unusedVariables false
set_option linter.unusedSimpArgs false
namespace Go.Proofs.YthhdgjofagdjeaaDoor
open Go.RowKit

/-- the value is a slice of n elements, of sz cells each, that hold cs; all up to its capacity may be written; its block is base or above -/
def Win (w : World) (base sz : Nat) (v : Value) (n : Nat) (cs : List Value) : Prop :=
  cs.length = n * sz ∧ ((v = .slice none 0 0 ∧ n = 0) ∨
    ∃ g o cap, v = .slice (some ⟨g, o, none⟩) n cap ∧ base ≤ g ∧ n ≤ cap ∧ cap ≤ maxLen ∧ g < w.heap.size ∧ w.there g o (cap * sz) ∧ w.rangeAt g o cs)

/-- the block of a slice -/
def Own (v : Value) : Nat → Prop := fun k => v.ownBlock = some k
theorem Win.nil (w : World) (base sz : Nat) : Win w base sz (.slice none 0 0) 0 [] := ⟨by simp, .inl ⟨rfl, rfl⟩⟩
section
variable {w w' : World} {S : Nat → Prop} {base sz n : Nat} {v : Value} {cs : List Value}
theorem Win.keeps (h : Win w base sz v n cs) (hk : Keeps S w w') (hb : ∀ g, v.ownBlock = some g → ¬ S g) : Win w' base sz v n cs := by
  obtain ⟨h0, h | ⟨g, o, cap, rfl, h1, h2, h3, h4, h5, h6⟩⟩ := h
  · exact ⟨h0, .inl h⟩
  · have hg := hb g rfl
    have hc : ∀ a : Addr, a.block = g → w'.cell? a = w.cell? a := fun a ha => World.cell?_of_block (by rw [ha]; exact hk.block g h4 hg)
    have hf : ∀ a : Addr, a.block = g → w'.frozen? a = w.frozen? a := fun a ha => World.frozen?_of_block (by rw [ha]; exact hk.block g h4 hg)
    exact ⟨h0, .inr ⟨g, o, cap, rfl, h1, h2, h3, Nat.lt_of_lt_of_le h4 hk.size, fun j hj => ⟨by rw [hc _ rfl]; exact (h5 j hj).1, by rw [hf _ rfl]; exact (h5 j hj).2⟩, fun j u hu => by rw [hc _ rfl]; exact h6 j u hu⟩⟩
theorem Win.ext (h : Win w base sz v n cs) (hk : Ext w w') : Win w' base sz v n cs := h.keeps hk fun _ _ => noB _
theorem Win.len (h : Win w base sz v n cs) : ∃ a c, v = .slice a n c := by
  rcases h.2 with ⟨rfl, rfl⟩ | ⟨g, o, cap, rfl, _⟩
  · exact ⟨_, _, rfl⟩
  · exact ⟨_, _, rfl⟩
theorem Win.form (h : Win w base sz v n cs) (hn : 0 < n) : ∃ g o cap, v = .slice (some ⟨g, o, none⟩) n cap ∧ base ≤ g ∧ g < w.heap.size ∧ n ≤ cap ∧ w.rangeAt g o cs := by
  rcases h.2 with ⟨_, h0⟩ | ⟨g, o, cap, h1, h2, h3, h4, h5, h6, h7⟩
  · omega
  · exact ⟨g, o, cap, h1, h2, h5, h3, h7⟩
theorem Win.block (h : Win w base sz v n cs) : ∀ g, v.ownBlock = some g → base ≤ g ∧ g < w.heap.size := by
  intro g hg
  rcases h.2 with ⟨rfl, _⟩ | ⟨g', o, cap, rfl, h2, h3, h4, h5, h6, h7⟩
  · cases hg
  · cases hg; exact ⟨h2, h5⟩
theorem Win.mono {base' : Nat} (h : Win w base sz v n cs) (hb : base' ≤ base) : Win w base' sz v n cs := by
  obtain ⟨h0, h | ⟨g, o, cap, h1, h2, h3⟩⟩ := h
  · exact ⟨h0, .inl h⟩
  · exact ⟨h0, .inr ⟨g, o, cap, h1, by omega, h3⟩⟩
/-- without the first i elements -/
theorem Win.drop {g o cap : Nat} (h : Win w base sz (.slice (some ⟨g, o, none⟩) n cap) n cs) (i : Nat) (hi : i ≤ n) : Win w base sz (.slice (some ⟨g, o + i * sz, none⟩) (n - i) (cap - i)) (n - i) (cs.drop (i * sz)) := by
  obtain ⟨h0, ⟨h, _⟩ | ⟨g', o', cap', h, h1, h2, h3, h4, h5, h6⟩⟩ := h
  · cases h
  · cases h
    have e1 : (cap - i) * sz = cap * sz - i * sz := Nat.sub_mul _ _ _
    have e2 : i * sz ≤ cap * sz := Nat.mul_le_mul_right _ (by omega)
    refine ⟨by rw [List.length_drop, h0, Nat.sub_mul], .inr ⟨g, o + i * sz, _, rfl, h1, by omega, by omega, h4, fun j hj => ?_, fun j u hu => ?_⟩⟩
    · rw [show o + i * sz + j = o + (i * sz + j) by omega]
      exact h5 _ (by omega)
    · rw [show o + i * sz + j = o + (i * sz + j) by omega]
      exact h6 _ _ (by rwa [List.getElem?_drop] at hu)
/-- .. as the model writes it: at the capacity the address stays -/
theorem Win.drop' {g o cap : Nat} (h : Win w base sz (.slice (some ⟨g, o, none⟩) n cap) n cs) (i : Nat) (hi : i ≤ n) : Win w base sz (.slice (if cap = i then some ⟨g, o, none⟩ else some ⟨g, o + i * sz, none⟩) (n - i) (cap - i)) (n - i) (cs.drop (i * sz)) := by
  by_cases hc : cap = i
  · rw [if_pos hc]
    have hd := h.drop i hi
    obtain ⟨h0, ⟨h, _⟩ | ⟨g', o', cap', h, h1, h2, h3, h4, h5, h6⟩⟩ := h
    · cases h
    · cases h
      obtain rfl : n = i := by omega
      subst hc
      simp only [Nat.sub_self] at hd ⊢
      refine ⟨hd.1, .inr ⟨g, o, 0, rfl, h1, Nat.le_refl _, Nat.zero_le _, h4, fun j hj => by omega, fun j u hu => ?_⟩⟩
      have := hd.1
      rw [Nat.zero_mul] at this
      rw [List.eq_nil_of_length_eq_zero this] at hu
      cases hu
  · rw [if_neg hc]; exact h.drop i hi
theorem ownBlock_ite {c : Prop} [Decidable c] {g o o' n m : Nat} : Value.ownBlock (.slice (if c then some ⟨g, o, none⟩ else some ⟨g, o', none⟩) n m) = some g := by
  split <;> rfl
end

theorem rangeAt_append {w : World} {b o : Nat} {xs ys : List Value} (h1 : w.rangeAt b o xs) (h2 : w.rangeAt b (o + xs.length) ys) : w.rangeAt b o (xs ++ ys) := by
  intro j u hu
  by_cases hj : j < xs.length
  · rw [List.getElem?_append_left hj] at hu
    exact h1 j u hu
  · rw [List.getElem?_append_right (by omega)] at hu
    have := h2 _ u hu
    rwa [show o + xs.length + (j - xs.length) = o + j by omega] at this

theorem heap_block_setCells (b : Nat) : ∀ (vs : List Value) (o : Nat) (w : World), (w.setCells b o vs).heap.size = w.heap.size ∧ (w.setCells b o vs).os = w.os ∧ (w.setCells b o vs).tape = w.tape ∧ (w.setCells b o vs).output = w.output ∧ ∀ i, i ≠ b → (w.setCells b o vs).heap[i]? = w.heap[i]?
  | [], _, _ => ⟨rfl, rfl, rfl, rfl, fun _ _ => rfl⟩
  | v :: vs, o, w => by
    obtain ⟨h1, h2, h3, h4, h5⟩ := heap_block_setCells b vs (o + 1) (w.setCell ⟨b, o, none⟩ v)
    rw [World.setCells]
    exact ⟨h1.trans (by simp [World.setCell]), h2, h3, h4, fun i hi => (h5 i hi).trans (Below.heap_setCell w _ v i (by exact fun e => hi e))⟩
theorem Keeps.setCells {S : Nat → Prop} {w w1 : World} (h : Keeps S w w1) (b o : Nat) (vs : List Value) (hp : S b ∨ w.heap.size ≤ b) : Keeps S w (w1.setCells b o vs) := by
  obtain ⟨h1, h2, h3, h4, h5⟩ := heap_block_setCells b vs o w1
  refine ⟨h2.trans h.os, h3.trans h.tape, h4.trans h.output, by rw [h1]; exact h.size, fun i hi hs => (h5 i ?_).trans (h.block i hi hs)⟩
  rintro rfl
  rcases hp with hp | hp
  · exact hs hp
  · omega

/-- append onto it -/
theorem run_append_win {P : Program} (w : World) (base : Nat) (t tx ty e : TypeId) (i : TypeInfo) (z : Value) (sz bytes : Nat) (ht : P.underlying t = some (.slice e)) (hi : P.info? e = some i) (hz : i.zero = some z)
    (hsize : i.size = sz) (hby : i.bytes = bytes) (hzs : z.cells.size = sz) (v : Value) (n : Nat) (cs : List Value) (hown : Win w base sz v n cs)
    (x : Value) (m : Nat) (news : List Value) (hs : Src P sz tx x m news w) (h63 : n + m ≤ maxLen) (hbytes : (n + m) * bytes ≤ 140737488355328) (hbase : base ≤ w.heap.size) :
    ∃ v' w', (Builtin.append_ #[t, tx] ty #[v, x]).run P w = .ok v' w' ∧ Win w' base sz v' (n + m) (cs ++ news) ∧ Keeps (fun k => v.ownBlock = some k) w w' ∧ (v'.ownBlock = v.ownBlock ∨ v'.ownBlock = some w.heap.size) := by
  subst hsize
  subst hby
  have hnl := hs.newsLen
  have h63' : ((n + m : Nat) : Int) ≤ 9223372036854775807 := by simp only [maxLen] at h63; omega
  have hlen : (cs ++ news).length = (n + m) * i.size := by rw [List.length_append, hown.1, hnl, Nat.add_mul]
  have grown : ∀ (old : Nat), Win (w.drew.alloc (.cells ((cs ++ news).toArray ++ Builtin.zeroCells z.cells (grownCap w (n + m) old e - (n + m))) e)) base i.size
      (.slice (some ⟨w.heap.size, 0, none⟩) (n + m) (grownCap w (n + m) old e)) (n + m) (cs ++ news) := by
    intro old
    have hge := grownCap_ge w (n + m) old e
    have hcm := grownCap_le_maxLen w (n + m) old e h63
    have hnew : (w.drew.alloc (.cells ((cs ++ news).toArray ++ Builtin.zeroCells z.cells (grownCap w (n + m) old e - (n + m))) e)).heap[w.heap.size]? = some (.cells ((cs ++ news).toArray ++ Builtin.zeroCells z.cells (grownCap w (n + m) old e - (n + m))) e (0, 0)) :=
      World.alloc_heap_new w.drew _
    have hsz : ((cs ++ news).toArray ++ Builtin.zeroCells z.cells (grownCap w (n + m) old e - (n + m))).size = grownCap w (n + m) old e * i.size := by
      rw [Array.size_append, size_zeroCells, hzs, List.size_toArray, hlen, ← Nat.add_mul]
      congr 1
      omega
    refine ⟨hlen, .inr ⟨w.heap.size, 0, _, rfl, hbase, hge, hcm, by simp, fun j hj => ⟨?_, ?_⟩, fun j u hu => ?_⟩⟩
    · simp only [World.cell?, hnew, Nat.zero_add]
      rw [Array.getElem?_eq_getElem (by omega)]; rfl
    · simp only [World.frozen?, hnew]; simp
    · simp only [World.cell?, hnew, Nat.zero_add]
      have hj : j < (cs ++ news).length := (List.getElem?_eq_some_iff.1 hu).1
      rw [Array.getElem?_append_left (by simpa using hj)]
      simpa using hu
  have grownK : ∀ (o : Obj) (S : Nat → Prop), Keeps S w (w.drew.alloc o) := fun o S => ((Keeps.refl S w).drew).alloc o
  rcases hown.2 with ⟨rfl, rfl⟩ | ⟨g, o, cap, rfl, hbg, hnc, hcm, hglt, hth, hra⟩
  · have hcs : cs = [] := List.eq_nil_of_length_eq_zero (by simpa using hown.1)
    subst hcs
    by_cases hm : m = 0
    · subst hm
      have hn : news = [] := List.eq_nil_of_length_eq_zero (by simpa using hnl)
      subst hn
      exact ⟨_, _, run_append_nothing w t tx ty e i ht hi none 0 0 (Nat.le_refl _) x hs, hown, Keeps.refl _ _, .inl rfl⟩
    · have hr := run_append_grow_src (P := P) w t tx ty e i z ht hi hz none 0 0 [] (run_firstCells_none w.drew i.size 0 0 0) x m news hs (by omega) h63' (growslice_fits (by omega) hbytes)
      exact ⟨_, _, hr, grown 0, grownK _ _, .inr rfl⟩
  · by_cases hroom : n + m ≤ cap
    · have hle : (n + m) * i.size ≤ cap * i.size := Nat.mul_le_mul_right _ hroom
      rw [Nat.add_mul] at hle
      have hth' : w.there g (o + n * i.size) news.length := fun j hj => by
        have := hth (n * i.size + j) (by omega)
        rwa [← Nat.add_assoc] at this
      have hr := run_append_room_src (P := P) w t tx ty e i ht hi g o n cap x m news hs hroom (fun j hj => (hth' j hj).1) (fun j hj => (hth' j hj).2)
      refine ⟨_, _, hr, ⟨hlen, .inr ⟨g, o, cap, rfl, hbg, hroom, hcm, by rw [(heap_block_setCells g news _ w).1]; exact hglt, World.there_setCells hth _ _ _, ?_⟩⟩, (Keeps.refl _ _).setCells _ _ _ (.inl rfl), .inl rfl⟩
      refine rangeAt_append (World.rangeAt_setCells_apart hra g _ news (.inr (.inl (by rw [hown.1]; omega)))) ?_
      rw [hown.1]
      exact World.rangeAt_setCells_same w g _ news hth'
    · have hold : (Builtin.firstCells i.size n (.slice (some ⟨g, o, none⟩) n cap)).run P w.drew = .ok cs.toArray w.drew :=
        run_firstCells_some w.drew i.size n ⟨g, o, none⟩ n cap cs hown.1 (fun j u hu => by rw [Addr.add_lit]; exact hra j u hu)
      have hr := run_append_grow_src (P := P) w t tx ty e i z ht hi hz (some ⟨g, o, none⟩) n cap cs hold x m news hs (by omega) h63' (growslice_fits (by omega) hbytes)
      exact ⟨_, _, hr, grown cap, grownK _ _, .inr rfl⟩

theorem SrcCells.toSrc {P : Program} {w : World} {x : Value} {m sz : Nat} {news : List Value} {tx e' : TypeId} (h : SrcCells w x m news) (hk : P.underlying tx = some (.slice e')) (hl : news.length = m * sz) (h1 : ∀ u ∈ news, u.oneCell' = true) : Src P sz tx x m news w := by
  rcases h with ⟨rfl, rfl, rfl⟩ | ⟨ad, c, rfl, hc⟩
  · exact Src.ofNil w hk 0
  · exact Src.ofSlice w hk ad m c news hl hc h1
theorem Win.of_owns {w : World} {base : Nat} {e : TypeId} {sz : Nat} {v : Value} {n : Nat} {xs : List Value} (h : w.ownsRow base e sz v n xs) : Win w base sz v n xs := by
  rcases h.2 with ⟨h1, h2⟩ | ⟨g, cap, cur, h1, hb, hg, hnc, hcm, hcs, htake⟩
  · exact ⟨h.1, .inl ⟨h1, h2⟩⟩
  · subst h1
    have hlt := (Array.getElem?_eq_some_iff.1 hg).1
    refine ⟨h.1, .inr ⟨g, 0, cap, rfl, hb, hnc, hcm, hlt, fun j hj => ⟨?_, ?_⟩, fun j u hu => ?_⟩⟩
    · simp only [World.cell?, hg, Nat.zero_add]
      rw [Array.getElem?_eq_getElem (by omega)]; rfl
    · simp [World.frozen?, hg]
    · have := h.cells (g := g) rfl j u hu
      rwa [Addr.add_lit] at this
theorem Win.src {w : World} {base sz n : Nat} {v : Value} {cs : List Value} (h : Win w base sz v n cs) : SrcCells w v n cs := by
  rcases h.2 with ⟨rfl, rfl⟩ | ⟨g, o, cap, rfl, _, _, _, _, _, h6⟩
  · exact .inl ⟨rfl, rfl, List.eq_nil_of_length_eq_zero (by simpa using h.1)⟩
  · exact .inr ⟨_, _, rfl, fun j u hu => by rw [Addr.add_lit]; exact h6 j u hu⟩
end Go.Proofs.YthhdgjofagdjeaaDoor
