/- Texts TakeLay, DocParse, one behind the other. Conditions: as each says. -/
import Derived.Test.YtoadjbgpfihoiaaGreatDoorFuP
set_option linter.unusedVariables false
set_option linter.unusedSimpArgs false
set_option maxHeartbeats 8000000
set_option maxRecDepth 100000
namespace Go.Proofs.YtoadjbgpfihoiaaGreatDoor
open Go.RowKit
theorem Rdr.num_lay (r : Rdr) (g : Int) (hg : 0 ≤ g) (h : (r.num g).1.e = 0) : r.b = numL (r.num g).2.1 ++ (r.num g).1.b := by
 have he := (r.num_e g hg h).1; unfold Rdr.num at h ⊢; rw [if_neg (fun h => h he), if_neg (by omega)] at h ⊢; split at h
 · rename_i hk
   rw [if_pos hk]; dsimp only; rw [← numL_take hk.1, List.take_append_drop]
 · exact absurd h (by decide)
theorem Rdr.txt_lay (r : Rdr) (g : Int) (hg : 0 ≤ g) (h : (r.txt g).1.e = 0) : r.b = txtL (r.txt g).2.1 ++ (r.txt g).1.b := by
 have h2 := r.num_e' g hg; unfold Rdr.txt at h ⊢; by_cases hn : (r.num g).2.2 ≠ 0
 · rw [if_pos hn] at h
   exact absurd h (by rw [← h2]; exact hn)
 · rw [if_neg hn] at h ⊢
   have hn0 : (r.num g).1.e = 0 := by rw [← h2]; simpa using hn
   have hl := r.num_lay g hg hn0; split at h
   · rename_i hk
     rw [if_pos hk]; dsimp only; unfold txtL; rw [List.length_take, Nat.min_eq_left hk, List.append_assoc, List.take_append_drop]; exact hl
   · exact absurd h (by decide)
theorem Rdr.tru_lay (r : Rdr) (h : r.tru.1.e = 0) : r.b = truL r.tru.2.1 ++ r.tru.1.b := by
 unfold Rdr.tru at h ⊢; by_cases he : r.e ≠ 0
 · rw [if_pos he] at h; exact absurd h he
 · rw [if_neg he] at h ⊢
   split at h
   · exact absurd h (by decide)
   · rename_i c l hc
     split at h
     · rename_i h1
       simp only [hc, h1, if_true]; unfold truL
       have : c = 0 ∨ c = 1 := by
        have h2 : c.toNat = 0 ∨ c.toNat = 1 := by omega
        rcases h2 with h2 | h2
        · exact .inl (UInt8.toNat_inj.1 h2)
        · exact .inr (UInt8.toNat_inj.1 h2)
       rcases this with rfl | rfl <;> rfl
     · exact absurd h (by decide)
theorem Rdr.num_ok (r : Rdr) (g : Int) (h : (r.num g).1.e = 0) : r.e = 0 := by
 by_cases he : r.e = 0
 · exact he
 · rw [r.num_err g he] at h; exact h
def Part.slot : Part → Nat
 | .member => 0
 | .number _ => 1
 | .index => 2
 | .is => 3
 | .said => 4
 | .token => 5
 | .entry => 6
theorem Part.take_lay (p : Part) (r : Rdr) (s : Sd) (h : (p.take r s).1.e = 0) : r.b = p.lay (p.take r s).2 ++ (p.take r s).1.b := by
 cases p <;> unfold Part.take at h ⊢ <;> unfold Part.lay
 · simpa using r.num_lay 15 (by decide) h
 · simpa using r.num_lay 2147483647 (by decide) h
 · simpa using r.num_lay 2147483647 (by decide) h
 · exact r.tru_lay h
 · exact r.txt_lay 200 (by decide) h
 · exact r.txt_lay 200 (by decide) h
 · dsimp only at h ⊢
   obtain ⟨a, ha⟩ : ∃ a, r.num 4 = a := ⟨_, rfl⟩; obtain ⟨b, hb⟩ : ∃ b, a.1.num 15 = b := ⟨_, rfl⟩; obtain ⟨c, hc⟩ : ∃ c, b.1.num 2147483647 = c := ⟨_, rfl⟩; obtain ⟨d, hd⟩ : ∃ d, c.1.txt 200 = d := ⟨_, rfl⟩; have l1 := r.num_lay 4 (by decide); have l2 := a.1.num_lay 15 (by decide); have l3 := b.1.num_lay 2147483647 (by decide); have l4 := c.1.txt_lay 200 (by decide); have o2 := a.1.num_ok 15; have o3 := b.1.num_ok 2147483647
   have o4 : (c.1.txt 200).1.e = 0 → c.1.e = 0 := fun h => by
    by_cases he : c.1.e = 0
    · exact he
    · exact absurd h (Rdr.txt_sticky 200 he)
   rw [ha] at h l1 ⊢; rw [hb] at h l2 o2 ⊢; rw [hc] at h l3 o3 ⊢; rw [hd] at h l4 o4 ⊢; by_cases h4 : (a.2.1 : Int) = 4
   · have h4' : a.2.1 = 4 := by omega
     rw [if_pos h4'] at h ⊢; dsimp only at h ⊢; rw [if_pos h4, l1 (o2 (o3 (o4 h))), l2 (o3 (o4 h)), l3 (o4 h), l4 h]; simp
   · have h4' : ¬ a.2.1 = 4 := by omega
     rw [if_neg h4'] at h ⊢; dsimp only at h ⊢; rw [if_neg h4, l1 (o2 h), l2 h]; simp
theorem Part.take_other (p q : Part) (r : Rdr) (s : Sd) (h : q.slot ≠ p.slot) : p.lay (q.take r s).2 = p.lay s := by
 cases p <;> cases q <;> first | exact absurd rfl h | rfl | (unfold Part.take; dsimp only; split <;> rfl)
theorem Part.take_kind (p : Part) (r : Rdr) (s : Sd) : (p.take r s).2.kind = s.kind := by
 cases p <;> first | rfl | (unfold Part.take; dsimp only; split <;> rfl)
theorem takeAll_keep (p : Part) : ∀ (ps : List Part) (r : Rdr) (s : Sd), (∀ q ∈ ps, q.slot ≠ p.slot) → p.lay (takeAll ps r s).2 = p.lay s
 | [], r, s, h => rfl
 | q :: ps, r, s, h => by
   rw [takeAll_cons, takeAll_keep p ps _ _ (fun x hx => h x (List.mem_cons_of_mem _ hx)), p.take_other q r s (h q (List.mem_cons_self ..))]
theorem takeAll_kind : ∀ (ps : List Part) (r : Rdr) (s : Sd), (takeAll ps r s).2.kind = s.kind
 | [], r, s => rfl
 | q :: ps, r, s => by rw [takeAll_cons, takeAll_kind ps, q.take_kind]
theorem takeAll_lay : ∀ (ps : List Part) (r : Rdr) (s : Sd), (ps.map Part.slot).Nodup → (takeAll ps r s).1.e = 0 → r.b = (ps.map fun p => p.lay (takeAll ps r s).2).flatten ++ (takeAll ps r s).1.b
 | [], r, s, hn, h => rfl
 | p :: ps, r, s, hn, h => by
   rw [takeAll_cons] at h ⊢; rw [List.map_cons, List.nodup_cons] at hn
   have h1 : (p.take r s).1.e = 0 := by
    by_cases he : (p.take r s).1.e = 0
    · exact he
    · exact absurd h (takeAll_sticky _ _ he)
   rw [p.take_lay r s h1, List.map_cons, List.flatten_cons, takeAll_keep p ps _ _ (fun q hq e => hn.1 (by rw [← e]; exact List.mem_map_of_mem hq)), List.append_assoc, ← takeAll_lay ps _ _ hn.2 h]
theorem partsOf_nodup (k : Int) : (((partsOf k).getD []).map Part.slot).Nodup := by
 by_cases hk : 1 ≤ k ∧ k ≤ 12
 · obtain rfl | rfl | rfl | rfl | rfl | rfl | rfl | rfl | rfl | rfl | rfl | rfl : k = 1 ∨ k = 2 ∨ k = 3 ∨ k = 4 ∨ k = 5 ∨ k = 6 ∨ k = 7 ∨ k = 8 ∨ k = 9 ∨ k = 10 ∨ k = 11 ∨ k = 12 := by omega
   all_goals decide
 · have : partsOf k = none := by
    unfold partsOf; simp only [show ¬ k = 1 by omega, show ¬ k = 2 by omega, show ¬ k = 3 by omega, show ¬ k = 4 by omega, show ¬ k = 5 by omega, show ¬ k = 6 by omega, show ¬ k = 7 by omega, show ¬ k = 8 by omega, show ¬ k = 9 by omega, show ¬ k = 10 by omega, show ¬ k = 11 by omega, show ¬ k = 12 by omega, if_false]
   rw [this]; decide
theorem parse_back (b : List UInt8) (h : (parseL b).2 = 0) : bodyL (parseL b).1 = b ∧ sdB (parseL b).1 = true := by
 unfold parseL at h ⊢; dsimp only at h ⊢; split at h
 · rename_i hc
   rw [if_pos hc]; dsimp only; obtain ⟨h1, h2, h3, h4⟩ := hc; refine ⟨?_, h4⟩; obtain ⟨a, ha⟩ : ∃ a, (⟨b, 0⟩ : Rdr).num 12 = a := ⟨_, rfl⟩; have hl := (⟨b, 0⟩ : Rdr).num_lay 12 (by decide); rw [ha] at h1 h2 h3 h4 hl ⊢
   have h5 : a.1.e = 0 := by
    by_cases he : a.1.e = 0
    · exact he
    · exact absurd h2 (takeAll_sticky _ _ he)
   have hk : (takeAll ((partsOf a.2.1).getD []) a.1 (Sd.of a.2.1)).2.kind = a.2.1 := takeAll_kind _ _ _; have hq := takeAll_lay _ a.1 (Sd.of a.2.1) (partsOf_nodup a.2.1) h2; rw [h3, List.append_nil] at hq; unfold bodyL; rw [hk, Int.toNat_natCast, ← hq]; exact (hl h5).symm
 · exact absurd h (by decide)
def dF7 (k : Int) (r : Rdr) (s : Sd) : Rdr × Sd := (r, s)
def dF6 (k : Int) (r : Rdr) (s : Sd) : Rdr × Sd := if k = 9 then Part.entry.take r s else (r, s)
def dF5 (k : Int) (r : Rdr) (s : Sd) : Rdr × Sd := if k = 1 ∨ k = 8 ∨ k = 9 then dF6 k (Part.token.take r s).1 (Part.token.take r s).2 else dF6 k r s
def dF4 (k : Int) (r : Rdr) (s : Sd) : Rdr × Sd := if k = 4 then dF5 k (Part.said.take r s).1 (Part.said.take r s).2 else dF5 k r s
def dF3 (k : Int) (r : Rdr) (s : Sd) : Rdr × Sd := if k = 7 ∨ k = 10 ∨ k = 11 then dF4 k (Part.is.take r s).1 (Part.is.take r s).2 else dF4 k r s
def dF2 (k : Int) (r : Rdr) (s : Sd) : Rdr × Sd := if k = 5 ∨ k = 8 ∨ k = 9 then dF3 k (Part.index.take r s).1 (Part.index.take r s).2 else dF3 k r s
def dF1 (k : Int) (r : Rdr) (s : Sd) : Rdr × Sd := if k = 4 ∨ k = 12 then dF2 k ((Part.number 0).take r s).1 ((Part.number 0).take r s).2 else dF2 k r s
def dF0 (k : Int) (r : Rdr) (s : Sd) : Rdr × Sd := if k = 1 ∨ k = 10 ∨ k = 11 then dF1 k (Part.member.take r s).1 (Part.member.take r s).2 else dF1 k r s
theorem dF_eq (k : Int) (h : 0 ≤ k ∧ k ≤ 12) (r : Rdr) (s : Sd) : dF0 k r s = takeAll ((partsOf k).getD []) r s := by
 obtain rfl | rfl | rfl | rfl | rfl | rfl | rfl | rfl | rfl | rfl | rfl | rfl | rfl : k = 0 ∨ k = 1 ∨ k = 2 ∨ k = 3 ∨ k = 4 ∨ k = 5 ∨ k = 6 ∨ k = 7 ∨ k = 8 ∨ k = 9 ∨ k = 10 ∨ k = 11 ∨ k = 12 := by omega
 all_goals rfl
def Short (s : Sd) : Prop := s.text.length ≤ 200 ∧ s.token.length ≤ 200 ∧ s.e.text.length ≤ 200
theorem Part.take_short (p : Part) (r : Rdr) (s : Sd) (h : Short s) : Short (p.take r s).2 := by
 obtain ⟨h1, h2, h3⟩ := h; cases p <;> unfold Part.take
 · exact ⟨h1, h2, h3⟩
 · exact ⟨h1, h2, h3⟩
 · exact ⟨h1, h2, h3⟩
 · exact ⟨h1, h2, h3⟩
 · have := r.txt_lt 200 (by decide)
   exact ⟨by dsimp only; omega, h2, h3⟩
 · have := r.txt_lt 200 (by decide)
   exact ⟨h1, by dsimp only; omega, h3⟩
 · dsimp only
   have ht := (((r.num 4).1.num 15).1.num 2147483647).1.txt_lt 200 (by decide); split
   · exact ⟨h1, h2, by dsimp only; omega⟩
   · exact ⟨h1, h2, h3⟩
end Go.Proofs.YtoadjbgpfihoiaaGreatDoor
