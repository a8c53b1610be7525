/- Texts RMain, one behind the other. Conditions: as each says. -/
import Derived.Test.YtoadjbgpfihoiaaGreatDoorPlW
set_option linter.unusedVariables false
set_option linter.unusedSimpArgs false
set_option maxHeartbeats 8000000
set_option maxRecDepth 100000
namespace Go.Proofs.YtoadjbgpfihoiaaGreatDoor
open Go.RowKit
def ms (l : List It) : List (List UInt8) := (l.filter fun x => !x.side).map (·.bytes)
theorem ms_length (l : List It) : (ms l).length = mains l := by simp [ms, mains]
theorem ms_append (a b : List It) : ms (a ++ b) = ms a ++ ms b := by simp [ms]
theorem ms_side (x : It) (l : List It) (h : x.side = true) : ms (x :: l) = ms l := by simp [ms, h]
theorem ms_split (l : List It) (i : Nat) (h : i < l.length) (hi : l[i].side = true) : ms l = ms (l.take i) ++ ms (l.drop (i + 1)) := by
 have h1 : l.take i ++ l[i] :: l.drop (i + 1) = l := by rw [List.getElem_cons_drop, List.take_append_drop]
 have h2 : ms l = ms (l.take i ++ l[i] :: l.drop (i + 1)) := congrArg ms h1.symm; rw [h2, ms_append, ms_side _ _ hi]
theorem ms_set (l : List It) (i : Nat) (h : i < l.length) (x : It) (hx : x.side = true) (hi : l[i].side = true) : ms (l.set i x) = ms l := by
 rw [List.set_eq_take_append_cons_drop, if_pos h, ms_append, ms_side _ _ hx, ← ms_split l i h hi]
theorem ms_erase (l : List It) (i : Nat) (h : i < l.length) (hi : l[i].side = true) : ms (l.eraseIdx i) = ms l := by
 rw [List.eraseIdx_eq_take_drop_succ, ms_append, ← ms_split l i h hi]
theorem mains_all (l : List It) (h : l.findIdx? p34 = none) : mains l = l.length := by
 rw [List.findIdx?_eq_none_iff] at h; unfold mains; rw [List.filter_eq_self.2]; intro x hx; have := h x hx; unfold p34 at this; simp [this]
theorem mains_lt (l : List It) (i : Nat) (h : i < l.length) (hi : l[i].side = true) : mains l < l.length := by
 rw [← ms_length, ← ms_erase l i h hi, ms_length]; have := mains_le (l.eraseIdx i); rw [List.length_eraseIdx, if_pos h] at this; omega
theorem findIdx_at {p : It → Bool} {l : List It} {i : Nat} (h : l.findIdx? p = some i) : ∃ hi : i < l.length, p l[i] = true := by
 rw [List.findIdx?_eq_some_iff_getElem] at h; obtain ⟨h1, h2, _⟩ := h; exact ⟨h1, h2⟩
structure PutMain (R : AR) (x : It) (r : AR × Nat × Nat) : Prop where
 most : r.1.most = R.most
 lost : r.1.lost ≤ R.lost + 1
 sub : ∀ y ∈ r.1.items, y ∈ R.items ∨ y = x
 small : r.2.1 ≤ 1000 ∧ r.2.2 ≤ 1000
 other : ¬ (x.side = false ∧ x.key = 0) → ms r.1.items = ms R.items
 got : x.side = false → x.key = 0 → mains R.items < R.most → r.2.2 = 0 ∧ ms r.1.items = ms R.items ++ [x.bytes]
 full : x.side = false → x.key = 0 → ¬ mains R.items < R.most → r.2.2 = 350 ∧ ms r.1.items = ms R.items
theorem put_main (R : AR) (x : It) (hle : R.items.length ≤ R.most) (hx : x.bytes.length ≤ 1024) : PutMain R x (R.put x) := by
 unfold AR.put; by_cases h1 : (!x.side && x.key != 0) = true
 · rw [if_pos h1]
   rw [Bool.and_eq_true] at h1; have hs : x.side = false := by simpa using h1.1
   have hk : x.key ≠ 0 := by simpa using h1.2
   exact ⟨rfl, by dsimp only; omega, fun y hy => .inl hy, ⟨by dsimp only; omega, by dsimp only; omega⟩, fun _ => rfl, fun _ h _ => (hk h).elim, fun _ h _ => (hk h).elim⟩
 · rw [if_neg h1, if_neg (by omega)]
   cases h33 : R.items.findIdx? (p33 x) with
   | some i =>
     obtain ⟨hi, hp⟩ := findIdx_at h33; unfold p33 at hp; simp only [Bool.and_eq_true] at hp; obtain ⟨⟨hxs, his⟩, _⟩ := hp; refine ⟨rfl, Nat.le_refl _, fun y hy => ?_, ⟨by dsimp only; omega, by dsimp only; omega⟩, fun _ => ms_set _ _ hi _ hxs his, fun h => ?_, fun h => ?_⟩
     · rcases List.mem_or_eq_of_mem_set hy with h | h
       · exact .inl h
       · exact .inr h
     · rw [hxs] at h; cases h
     · rw [hxs] at h; cases h
   | none =>
     dsimp only; by_cases hroom : R.items.length < R.most
     · rw [if_pos hroom]
       have hm := mains_le R.items; refine ⟨rfl, by dsimp only; omega, fun y hy => ?_, ⟨by dsimp only; omega, by dsimp only; omega⟩, fun h => ?_, fun hs _ _ => ⟨rfl, ?_⟩, fun _ _ h => by omega⟩
       · rcases List.mem_append.1 hy with h | h
         · exact .inl h
         · exact .inr (List.mem_singleton.1 h)
       · rw [ms_append]
         have hxs : x.side = true := by
          cases hs : x.side with
          | true => rfl
          | false =>
            by_cases hk : x.key = 0
            · exact (h ⟨hs, hk⟩).elim
            · exact (h1 (by simp [hs, hk])).elim
         simp [ms, hxs]
       · rw [ms_append]
         simp [ms, hs]
     · rw [if_neg hroom]
       cases h34 : R.items.findIdx? p34 with
       | some i =>
         obtain ⟨hi, hp⟩ := findIdx_at h34; unfold p34 at hp; have hml := mains_lt R.items i hi hp; refine ⟨rfl, Nat.le_refl _, fun y hy => ?_, ⟨by dsimp only; omega, by dsimp only; omega⟩, fun h => ?_, fun hs _ _ => ⟨rfl, ?_⟩, fun _ _ h => by omega⟩
         · rcases List.mem_append.1 hy with h | h
           · exact .inl (List.mem_of_mem_eraseIdx h)
           · exact .inr (List.mem_singleton.1 h)
         · rw [ms_append, ms_erase _ _ hi hp]
           have hxs : x.side = true := by
            cases hs : x.side with
            | true => rfl
            | false =>
              by_cases hk : x.key = 0
              · exact (h ⟨hs, hk⟩).elim
              · exact (h1 (by simp [hs, hk])).elim
           simp [ms, hxs]
         · rw [ms_append, ms_erase _ _ hi hp]
           simp [ms, hs]
       | none =>
         have hml := mains_all R.items h34; dsimp only; cases hs : x.side with
         | true =>
           rw [if_pos rfl]; exact ⟨rfl, Nat.le_refl _, fun y hy => .inl hy, ⟨by dsimp only; omega, by dsimp only; omega⟩, fun _ => rfl, (fun h => by rw [hs] at h; cases h), fun h => by rw [hs] at h; cases h⟩
         | false =>
           rw [if_neg (by decide)]; exact ⟨rfl, by dsimp only; omega, fun y hy => .inl hy, ⟨by dsimp only; omega, by dsimp only; omega⟩, fun _ => rfl, fun _ _ h => by omega, fun _ _ _ => ⟨rfl, rfl⟩⟩
end Go.Proofs.YtoadjbgpfihoiaaGreatDoor
