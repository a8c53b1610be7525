/- The calls of the ring's statements as they lie in memory, and 'few'. Conditions: they lie as 'Acts' says. -/
import Derived.Test.YtocjnieehogcbaaRingM
import Derived.Test.YtocjnieehogcbaaWin
set_option linter.unusedVariables false
set_option maxHeartbeats 400000
namespace Go.Proofs.Ytocjnieehogcbaa
open Go.RowKit

structure Ac where
  what : Int
  item : It
def ActAt (w : World) (A : Nat → Prop) (b o : Nat) (x : Ac) : Prop := w.cell? ⟨b, o, none⟩ = some (.int .i64 x.what) ∧ ItemAt w A b (o + 1) x.item
def Acts (w : World) (A : Nat → Prop) (v : Value) (l : List Ac) : Prop := SlV A (ActAt w A) 4 v l
theorem ActAt.keeps {S A : Nat → Prop} {w w' : World} {b o : Nat} {x : Ac} (h : ActAt w A b o x) (hk : Keeps S w w') (hb : ¬ S b) (hA : ∀ k, A k → ¬ S k) : ActAt w' A b o x :=
  ⟨hk.cell hb h.1, h.2.keeps hk hb hA⟩
theorem Acts.keeps {S A : Nat → Prop} {w w' : World} {v : Value} {l : List Ac} (h : Acts w A v l) (hk : Keeps S w w') (hA : ∀ k, A k → ¬ S k) : Acts w' A v l :=
  SlV.mono h (fun _ h => h) fun b o x ha hb => hb.keeps hk (hA b ha) hA
theorem Acts.ext {A : Nat → Prop} {w w' : World} {v : Value} {l : List Ac} (h : Acts w A v l) (hk : Ext w w') : Acts w' A v l := h.keeps hk fun _ _ => noB _
theorem Acts.at {A : Nat → Prop} {w : World} {v : Value} {l : List Ac} (h : Acts w A v l) : ∃ a c, v = .slice a l.length c ∧ ∀ i (h : i < l.length), ∃ b o, a = some ⟨b, o, none⟩ ∧ l.length ≤ c ∧ A b ∧ ActAt w A b (o + i * 4) l[i] := by
  rcases h with ⟨a, rfl, rfl⟩ | ⟨b, o, c, rfl, h1, h2, h3⟩
  · exact ⟨_, _, rfl, fun i hi => by simp at hi⟩
  · exact ⟨_, _, rfl, fun i hi => ⟨b, o, rfl, h1, h2, h3 i hi⟩⟩

def fewOf (l : List Ac) (most : Int) : Bool := (l.all fun x => decide (x.item.bytes.length ≤ 200)) && decide ((l.length : Int) ≤ most)
theorem few_no {l : List Ac} {most : Int} {k : Nat} (hk : k < l.length) (h : 200 < l[k].item.bytes.length) : fewOf l most = false := by
  unfold fewOf
  rw [Bool.and_eq_false_iff]
  left
  rw [List.all_eq_false]
  exact ⟨l[k], List.getElem_mem hk, by simp; omega⟩
theorem few_yes {l : List Ac} {most : Int} (h : ∀ j (hj : j < l.length), l[j].item.bytes.length ≤ 200) : fewOf l most = decide ((l.length : Int) ≤ most) := by
  unfold fewOf
  have : (l.all fun x => decide (x.item.bytes.length ≤ 200)) = true := by
    rw [List.all_eq_true]
    intro x hx
    obtain ⟨j, hj, rfl⟩ := List.getElem_of_mem hx
    simpa using h j hj
  rw [this, Bool.true_and]
theorem few_spec {l : List Ac} {most : Int} (h : fewOf l most = true) : (∀ x ∈ l, x.item.bytes.length ≤ 200) ∧ (l.length : Int) ≤ most := by
  unfold fewOf at h
  rw [Bool.and_eq_true, List.all_eq_true] at h
  exact ⟨fun x hx => by simpa using h.1 x hx, by simpa using h.2⟩

theorem few_any {A : Nat → Prop} (w : World) (v : Value) (l : List Ac) (most : Int) (h : Acts w A v l) (hn : l.length ≤ 9223372036854775807) (hb : ∀ x ∈ l, x.item.bytes.length ≤ 9223372036854775807) :
    Calls Try.prog 15 #[v, .int .i64 most] w fun e w' => e = .returned (.bool (fewOf l most)) ∧ w = w' := by
  obtain ⟨a, c, rfl, hat⟩ := h.at
  have HAT := Lib.hid hat
  have HBN := Lib.hid hb
  clear h hat hb
  go_enter Try.func15, Try.ntmps15
  go_wp2_with fail
  go_loop [5] (fun i => ∃ k : Nat, k ≤ l.length ∧ i = .int .i64 k ∧ Hid (∀ j (hj : j < l.length), j < k → l[j].item.bytes.length ≤ 200)) (fun i => l.length - (intOf i).toNat)
  case atStart => exact ⟨0, Nat.zero_le _, rfl, fun j _ h => by omega⟩
  case round =>
    obtain ⟨k, hk, rfl, hh⟩ := hrel
    by_cases hlt : k < l.length
    · obtain ⟨b, o, rfl, hc, hAb, i1, i2, i3, bv, i4, i5⟩ := HAT.out k hlt
      obtain ⟨a', c', rfl⟩ := i5.len
      have hbn := HBN.out _ (List.getElem_mem hlt)
      clear i5
      by_cases hbig : 200 < l[k].item.bytes.length
      · have hf := few_no (most := most) hlt hbig
        go_wp2_with fail
        go_ret
        exact ⟨rfl, rfl⟩
      · have H2 : Hid (∀ j (hj : j < l.length), j < k + 1 → l[j].item.bytes.length ≤ 200) := fun j hj h => by
          by_cases hjk : j = k
          · subst hjk; omega
          · exact hh.out j hj (by omega)
        go_wp2_with fail
        go_round
        case rel => exact ⟨k + 1, by omega, by go_num, H2⟩
        case measure => simp [intOf]; omega
    · have hf := few_yes (l := l) (most := most) fun j hj => hh.out j hj (by omega)
      clear hh
      by_cases hm : (l.length : Int) ≤ most
      · have hf2 : fewOf l most = true := by rw [hf, decide_eq_true hm]
        clear hf
        go_wp2_with fail
        go_ret
        exact ⟨rfl, rfl⟩
      · have hf2 : fewOf l most = false := by rw [hf, decide_eq_false hm]
        clear hf
        go_wp2_with fail
        go_ret
        exact ⟨rfl, rfl⟩
end Go.Proofs.Ytocjnieehogcbaa
