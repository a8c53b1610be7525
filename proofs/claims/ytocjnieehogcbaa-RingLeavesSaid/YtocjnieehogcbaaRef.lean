/- The document's ring (antiphonref25): New, side, Put, Take, Len, SameItem. Conditions: it lies as 'RefV' says. -/
import Derived.Test.YtocjnieehogcbaaRingM
import Derived.Test.YtocjnieehogcbaaRowsA
set_option linter.unusedVariables false
set_option maxHeartbeats 400000
namespace Go.Proofs.Ytocjnieehogcbaa
open Go.RowKit

def RefV (w : World) (A : Nat → Prop) (v : Value) (R : AR) : Prop := ∃ sv, v = .agg #[.int .i64 (R.most : Int), sv, .int .i64 (R.lost : Int)] ∧ SlV A (ItemAt w A) 3 sv R.items
section
variable {w w' : World} {S A A' : Nat → Prop} {v : Value} {R : AR} {l : List It}
theorem SlV.itKeeps (h : SlV A (ItemAt w A) 3 v l) (hk : Keeps S w w') (hA : ∀ k, A k → ¬ S k) : SlV A (ItemAt w' A) 3 v l :=
  SlV.mono h (fun _ h => h) fun b o x hb hi => hi.keeps hk (hA b hb) hA
theorem SlV.itExt (h : SlV A (ItemAt w A) 3 v l) (hk : Ext w w') : SlV A (ItemAt w' A) 3 v l := h.itKeeps hk fun _ _ => noB _
theorem SlV.itMono (h : SlV A (ItemAt w A) 3 v l) (hA : ∀ k, A k → A' k) : SlV A' (ItemAt w A') 3 v l :=
  SlV.mono h hA fun b o x hb hi => hi.mono hA
theorem SlV.itAt (h : SlV A (ItemAt w A) 3 v l) : ∃ a c, v = .slice a l.length c ∧ ∀ i (h : i < l.length), ∃ b o, a = some ⟨b, o, none⟩ ∧ l.length ≤ c ∧ A b ∧ ItemAt w A b (o + i * 3) l[i] := by
  rcases h with ⟨a, rfl, rfl⟩ | ⟨b, o, c, rfl, h1, h2, h3⟩
  · exact ⟨_, _, rfl, fun i hi => by simp at hi⟩
  · exact ⟨_, _, rfl, fun i hi => ⟨b, o, rfl, h1, h2, h3 i hi⟩⟩
theorem RefV.keeps (h : RefV w A v R) (hk : Keeps S w w') (hA : ∀ k, A k → ¬ S k) : RefV w' A v R :=
  let ⟨sv, h1, h2⟩ := h
  ⟨sv, h1, h2.itKeeps hk hA⟩
theorem RefV.ext (h : RefV w A v R) (hk : Ext w w') : RefV w' A v R := h.keeps hk fun _ _ => noB _
theorem RefV.mono (h : RefV w A v R) (hA : ∀ k, A k → A' k) : RefV w A' v R :=
  let ⟨sv, h1, h2⟩ := h
  ⟨sv, h1, h2.itMono hA⟩
end

theorem rnew_no (w : World) (m : Int) (h : m < 1 ∨ 64 < m) :
    Calls Try.prog 40 #[.int .i64 m] w fun e w' => e = .returned (.tuple #[.agg #[.int .i64 0, .slice none 0 0, .int .i64 0], .int .i64 2]) ∧ Ext w w' := by
  have hx : m < 1 ∨ (¬ m < 1 ∧ 64 < m) := by omega
  rcases hx with h | ⟨h', h⟩
  all_goals
    go_enter Try.func40, Try.ntmps40
    go_wp2
    refine bodyPost_ret (v := .tuple #[.agg #[.int .i64 0, .slice none 0 0, .int .i64 0], .int .i64 2]) (by simp [results, Try.results40, go_sem]) rfl ⟨rfl, ?_⟩
    repeat (first | exact Keeps.refl _ _ | refine Keeps.alloc ?_ _ | refine Keeps.setNew ?_ _ _ (by simp; done))
theorem rnew_yes (w : World) (m : Nat) (h1 : 1 ≤ m) (h2 : m ≤ 64) :
    Calls Try.prog 40 #[.int .i64 (m : Int)] w fun e w' => e = .returned (.tuple #[.agg #[.int .i64 (m : Int), .slice none 0 0, .int .i64 0], .int .i64 0]) ∧ Ext w w' := by
  have g1 : ¬ ((m : Int) < 1) := by omega
  have g2 : ¬ (64 < (m : Int)) := by omega
  go_enter Try.func40, Try.ntmps40
  go_wp2
  refine bodyPost_ret (v := .tuple #[.agg #[.int .i64 (m : Int), .slice none 0 0, .int .i64 0], .int .i64 0]) (by simp [results, Try.results40, go_sem]) rfl ⟨rfl, ?_⟩
  repeat (first | exact Keeps.refl _ _ | refine Keeps.alloc ?_ _ | refine Keeps.setNew ?_ _ _ (by simp; done))

def pside (any : Bool) (key : Int) (y : It) : Bool := y.side && (any || y.key == key)
theorem rside_any {A : Nat → Prop} (w : World) (v : Value) (R : AR) (any : Bool) (key : Int) (h : RefV w A v R) (hl : R.items.length ≤ 1000) (hA : ∀ k, A k → k < w.heap.size) :
    Calls Try.prog 50 #[v, .bool any, .int .i64 key] w fun e w' => e = .returned (.int .i64 (findI (pside any key) R.items)) ∧ Ext w w' := by
  obtain ⟨sv, rfl, hs⟩ := h
  obtain ⟨a, c, rfl, hat⟩ := hs.itAt
  have HAT := Lib.hid hat
  have HA := Lib.hid hA
  clear hs hat hA
  go_enter Try.func50, Try.ntmps50
  go_wp2_with fail
  have bx0 := (Box.new w 48 [.int .i64 (R.most : Int), .slice a R.items.length c, .int .i64 (R.lost : Int)])
  have ex : Ext w (w.alloc (Obj.cells #[.int .i64 (R.most : Int), .slice a R.items.length c, .int .i64 (R.lost : Int)] 48)) := ((Keeps.refl NoB w).alloc _)
  have sx : (w.alloc (Obj.cells #[.int .i64 (R.most : Int), .slice a R.items.length c, .int .i64 (R.lost : Int)] 48)).heap.size = w.heap.size + 1 := by simp
  generalize (w.alloc (Obj.cells #[.int .i64 (R.most : Int), .slice a R.items.length c, .int .i64 (R.lost : Int)] 48)) = w0 at bx0 ex sx ⊢
  have Sx := Lib.hid sx
  clear sx
  obtain ⟨c0, z0⟩ := bx0.reads
  have l0 := bx0.lt
  have HE := Lib.hid ex
  clear ex bx0
  go_loop [7] (fun i => ∃ k : Nat, k ≤ R.items.length ∧ i = .int .i64 k ∧ Hid (∀ j (h : j < R.items.length), j < k → pside any key R.items[j] = false)) (fun i => R.items.length - (intOf i).toNat)
  case atStart => exact ⟨0, Nat.zero_le _, rfl, fun j _ h => by omega⟩
  case round =>
    obtain ⟨k, hk, rfl, hn⟩ := hrel
    by_cases hlt : k < R.items.length
    · obtain ⟨b, o, rfl, hc, hAb, i1, i2, bv, i3, i4⟩ := HAT.out k hlt
      have hbl := HA.out b hAb
      have j1 := Ext.cell HE.out i1
      have j2 := Ext.cell HE.out i2
      have hbl0 : b < w0.heap.size := Nat.lt_of_lt_of_le hbl HE.out.size
      clear i1 i2 i3 i4
      cases hp : pside any key R.items[k] with
      | true =>
        have HF := Lib.hid (findI_some hlt hp fun j h h' => hn.out j h h')
        unfold pside at hp
        generalize R.items[k] = y at hp j1 j2
        obtain ⟨ys, yk, yb⟩ := y
        dsimp only at hp j1 j2
        simp only [Bool.and_eq_true, Bool.or_eq_true, beq_iff_eq] at hp
        obtain ⟨rfl, hp⟩ := hp
        cases any with
        | true =>
          clear hp
          go_wp2_with fail
          go_ret
          exact ⟨by rw [HF.out]; rfl, HE.out⟩
        | false =>
          obtain rfl : yk = key := by simpa using hp
          clear hp
          go_wp2_with fail
          go_ret
          exact ⟨by rw [HF.out]; rfl, HE.out⟩
      | false =>
        have HF : Hid (∀ j (h : j < R.items.length), j < k + 1 → pside any key R.items[j] = false) := fun j h h' => by
          by_cases hjk : j = k
          · subst hjk; exact hp
          · exact hn.out j h (by omega)
        unfold pside at hp
        generalize R.items[k] = y at hp j1 j2
        obtain ⟨ys, yk, yb⟩ := y
        dsimp only at hp j1 j2
        cases ys with
        | false =>
          clear hp
          go_wp2_with fail
          go_round
          case rel => exact ⟨k + 1, by omega, by go_num, HF⟩
          case measure => simp [intOf]; omega
        | true =>
          rw [Bool.true_and, Bool.or_eq_false_iff] at hp
          obtain ⟨rfl, hp⟩ := hp
          go_wp2_with fail
          go_round
          case rel => exact ⟨k + 1, by omega, by go_num, HF⟩
          case measure => simp [intOf]; omega
    · have HF : Hid (findI (pside any key) R.items = -1) := findI_none fun j h => hn.out j h (by omega)
      clear hn
      go_wp2_with fail
      go_ret
      exact ⟨by rw [HF.out]; rfl, HE.out⟩
end Go.Proofs.Ytocjnieehogcbaa
