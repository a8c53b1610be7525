/- Texts U8S, one behind the other. Conditions: as each says. -/
import Derived.Test.YtoadjbgpfihoiaaGreatDoorPlE
set_option linter.unusedVariables false
set_option linter.unusedSimpArgs false
set_option maxHeartbeats 8000000
set_option maxRecDepth 100000
namespace Go.Proofs.YtoadjbgpfihoiaaGreatDoor
open Go.RowKit
theorem append_bytes {A : Nat → Prop} (w : World) (base : Nat) (v : Value) (cs : List UInt8) (ty : TypeId) (hw : Win w base 1 v cs.length (cs.map byV)) (x : Value) (l : List UInt8) (hx : Bytes w A x l) (hl : cs.length + l.length ≤ 70368744177664) (hb : base ≤ w.heap.size) :
 ∃ v' w', (Builtin.append_ #[27, 27] ty #[v, x]).run Tryz.prog w = .ok v' w' ∧ Win w' base 1 v' (cs ++ l).length ((cs ++ l).map byV) ∧ Keeps (Own v) w w' ∧ (v'.ownBlock = v.ownBlock ∨ v'.ownBlock = some w.heap.size) := by
 obtain ⟨i0, hi, hz0, hz1, hz2⟩ := info_parts infoU8
 obtain ⟨v', w', h1, h2, h3, h4⟩ := run_append_win (P := Tryz.prog) w base 27 27 ty 5 i0 _ 1 1 Tryz.underlying27 hi hz0 hz1 hz2 rfl v cs.length (cs.map byV) hw
  x l.length (l.map byV) (hx.src.toSrc Tryz.underlying27 (by simp) (byV_one l)) (by simp [maxLen]; omega) (by omega) hb
 exact ⟨v', w', h1, by rw [List.length_append, List.map_append]; exact h2, h3, h4⟩
theorem byV_flat (l : List UInt8) : l.map byV = (l.map fun x => [byV x]).flatten := by
 induction l with
 | nil => rfl
 | cons x l ih => simp [ih]
theorem Bytes.of_win {w : World} {base n : Nat} {v : Value} {l : List UInt8} (h : Win w base 1 v n (l.map byV)) : Bytes w (fun b => base ≤ b ∧ b < w.heap.size) v l := by
 have hn : l.length = n := by have := h.1; simpa using this
 refine SlV.of_win (En := fun c (x : UInt8) => c = [byV x]) h hn.symm ⟨l.map fun x => [byV x], byV_flat l, by simp, fun j hj hj' => by simp⟩ ?_; intro b o c x hc _ hx; subst hc; exact hx 0 (by decide)
def WrN (w : World) (v : Value) : Prop := ∀ b o n c, v = .slice (some ⟨b, o, none⟩) n c → ∀ i, i < n → w.frozen? ⟨b, o + i, none⟩ = false
theorem WrN.of_win {w : World} {base n : Nat} {v : Value} {l : List UInt8} (h : Win w base 1 v n (l.map byV)) : WrN w v := by
 rintro b o m c rfl i hi; obtain ⟨h0, ⟨h, _⟩ | ⟨g', o', cap', h, h1, h2, h3, h4, h5, h6⟩⟩ := h
 · cases h
 · cases h
   exact (h5 i (by omega)).2
theorem WrN.set {w : World} {v : Value} (h : WrN w v) (p : Addr) (u : Value) : WrN (w.setCell p u) v := by
 intro b o n c hv i hi; have := h b o n c hv i hi; rw [← this]; simp [go_sem]
theorem WrN.keeps {w w' : World} {A S : Nat → Prop} {v : Value} {l : List UInt8} (hb : Bytes w A v l) (h : WrN w v) (hk : Keeps S w w') (hA : ∀ k, A k → ¬ S k ∧ k < w.heap.size) : WrN w' v := by
 rintro b o n c rfl i hi; rcases hb with ⟨a', h1, h2⟩ | ⟨b', o', c', h1, h2, h3, h4⟩
 · cases h1; simp at hi
 · cases h1
   rw [hk.frozen (hA _ h3).1 (hA _ h3).2]; exact h _ _ _ _ rfl i hi
theorem own_eq {g o n c k : Nat} (h : Own (.slice (some ⟨g, o, none⟩) n c) k) : k = g := by unfold Own at h; cases h; rfl
theorem RowOf.set {α : Type} {sz : Nat} {En : List Value → α → Prop} {cs c : List Value} {l : List α} {x : α} (h : RowOf sz En cs l) (hx : En c x) (hc : c.length = sz) (i : Nat) (hi : i < l.length) :
 RowOf sz En (cs.take (i * sz) ++ (c ++ cs.drop ((i + 1) * sz))) (l.set i x) := by
 rw [List.set_eq_take_append_cons_drop, if_pos hi]; exact RowOf.append (h.take i (by omega)) (RowOf.append (l := [x]) (RowOf.one hx hc) (h.drop (i + 1) (by omega)))
theorem Win.set {w : World} {base sz n cap o g : Nat} {cs c : List Value} (h : Win w base sz (.slice (some ⟨g, o, none⟩) n cap) n cs) (i : Nat) (hi : i < n) (hc : c.length = sz) :
 Win (w.setCells g (o + i * sz) c) base sz (.slice (some ⟨g, o, none⟩) n cap) n (cs.take (i * sz) ++ (c ++ cs.drop ((i + 1) * sz))) := by
 obtain ⟨h0, ⟨h, h'⟩ | ⟨g', o', cap', h, h1, h2, h3, h4, h5, h6⟩⟩ := h
 · omega
 · cases h
   have e1 : (i + 1) * sz = i * sz + sz := by rw [Nat.add_mul]; omega
   have e2 : (i + 1) * sz ≤ n * sz := Nat.mul_le_mul_right _ hi; have e3 : n * sz ≤ cap * sz := Nat.mul_le_mul_right _ h2
   have hth : w.there g (o + i * sz) c.length := fun j hj => by
    have := h5 (i * sz + j) (by omega); rwa [← Nat.add_assoc] at this
   have hlt : (cs.take (i * sz)).length = i * sz := by rw [List.length_take]; omega
   refine ⟨by simp only [List.length_append, hlt, List.length_drop]; omega, .inr ⟨g, o, cap, rfl, h1, h2, h3, by rw [(heap_block_setCells g c _ w).1]; exact h4, World.there_setCells h5 _ _ _, ?_⟩⟩; refine rangeAt_append ?_ (rangeAt_append ?_ ?_)
   · refine World.rangeAt_setCells_apart (fun j u hu => h6 j u ?_) g _ c (.inr (.inl (by rw [hlt]; omega)))
     rw [List.getElem?_take] at hu; split at hu
     · exact hu
     · cases hu
   · rw [hlt]; exact World.rangeAt_setCells_same w g _ c hth
   · rw [hlt, hc]
     refine World.rangeAt_setCells_apart (fun j u hu => ?_) g _ c (.inr (.inr (by omega))); rw [List.getElem?_drop] at hu; have := h6 _ u hu; rwa [show o + i * sz + sz + j = o + ((i + 1) * sz + j) by omega]
theorem Wr.set {w : World} {v : Value} (h : Wr w v) (p : Addr) (u : Value) : Wr (w.setCell p u) v := by
 intro b o n c hv i; have := h b o n c hv i; rw [← this]; simp [go_sem]
theorem Wr.keeps {w w' : World} {A S : Nat → Prop} {a : Option Addr} {c : Nat} {l : List UInt8} (hb : Bytes w A (.slice a l.length c) l) (h : Wr w (.slice a l.length c)) (hk : Keeps S w w') (hA : ∀ k, A k → ¬ S k ∧ k < w.heap.size) (hl : 0 < l.length) : Wr w' (.slice a l.length c) := by
 rcases hb with ⟨a', h1, h2⟩ | ⟨b, o', c', h1, h2, h3, h4⟩
 · subst h2; simp at hl
 · cases h1
   rintro b' o'' n'' c'' hv i; cases hv
   rw [hk.frozen (hA _ h3).1 (hA _ h3).2]; exact h _ _ _ _ rfl i
end Go.Proofs.YtoadjbgpfihoiaaGreatDoor
