/- Which lists of items are the same, as bytes.Equal, Same's question and slices.EqualFunc tell it. Conditions: they lie as 'ItemV' and 'SlV' say. -/
import Derived.Test.YtocjnieehogcbaaPlayed
set_option linter.unusedVariables false
set_option maxHeartbeats 400000
namespace Go.Proofs.Ytocjnieehogcbaa
open Go.RowKit

theorem bytes_equal {A B : Nat → Prop} (w : World) (v v' : Value) (l l' : List UInt8) (h : Bytes w A v l) (h' : Bytes w B v' l') :
    Calls Try.prog 46 #[v, v'] w fun e w' => e = .returned (.bool (l == l')) ∧ w = w' := by
  obtain ⟨a1, c1, rfl⟩ := h.len
  obtain ⟨a2, c2, rfl⟩ := h'.len
  have hc1 := h.str
  have hc2 := h'.str
  have hl1 := bs_toList l
  have hl2 := bs_toList l'
  clear h h'
  go_enter Try.func46, Try.ntmps46
  go_wp2_with fail
  go_ret
  exact ⟨by simp, rfl⟩

theorem same1 {A B : Nat → Prop} (w : World) (x y : It) (v v' : Value) (hv : ItemV w A v x) (hv' : ItemV w B v' y) :
    Calls Try.prog 45 #[v, v'] w fun e w' => e = .returned (.bool (sameI x y)) ∧ Ext w w' := by
  obtain ⟨bx, rfl, hx⟩ := hv
  obtain ⟨by', rfl, hy⟩ := hv'
  have HX := Lib.hid hx
  have HY := Lib.hid hy
  obtain ⟨a1, c1, rfl⟩ := hx.len
  obtain ⟨a2, c2, rfl⟩ := hy.len
  obtain ⟨xs, xk, xb⟩ := x
  obtain ⟨ys, yk, yb⟩ := y
  dsimp only at HX HY ⊢
  clear hx hy
  have hd : sameI ⟨xs, xk, xb⟩ ⟨ys, yk, yb⟩ = (xs == ys && xk == yk && xb == yb) := rfl
  have HD := Lib.hid hd
  have e0 : Ext w ((w.alloc (Obj.cells #[.bool xs, .int .i64 xk, .slice a1 xb.length c1] 31)).alloc (Obj.cells #[.bool ys, .int .i64 yk, .slice a2 yb.length c2] 31)) := ((Keeps.refl _ _).alloc _).alloc _
  have HE := Lib.hid e0
  clear hd e0
  by_cases h1 : xs = ys
  · subst h1
    by_cases h2 : xk = yk
    · subst h2
      go_enter Try.func45, Try.ntmps45
      go_wp2_with fail
      refine (bytes_equal _ _ _ xb yb (HX.out.ext HE.out) (HY.out.ext HE.out)).mono ?_
      rintro e w' ⟨rfl, rfl⟩
      go_wp2_with fail
      go_ret
      exact ⟨by rw [HD.out]; simp, HE.out⟩
    · have hk : (xk == yk) = false := beq_eq_false_iff_ne.2 h2
      go_enter Try.func45, Try.ntmps45
      go_wp2_with fail
      go_ret
      exact ⟨by rw [HD.out, hk]; simp, HE.out⟩
  · have hk : (xs == ys) = false := beq_eq_false_iff_ne.2 h1
    go_enter Try.func45, Try.ntmps45
    go_wp2_with fail
    go_ret
    exact ⟨by rw [HD.out, hk]; simp, HE.out⟩

theorem SlV.itCells {w : World} {A : Nat → Prop} {a : Option Addr} {n c : Nat} {l : List It} (h : SlV A (ItemAt w A) 3 (.slice a n c) l) :
    n = l.length ∧ ∀ i (hi : i < l.length), ∃ b o, a = some ⟨b, o, none⟩ ∧ l.length ≤ c ∧ b < w.heap.size ∧ ItemAt w A b (o + i * 3) l[i] := by
  obtain ⟨a', c', he, hat⟩ := h.itAt
  simp only [Value.slice.injEq] at he
  obtain ⟨rfl, rfl, rfl⟩ := he
  refine ⟨rfl, fun i hi => ?_⟩
  obtain ⟨b, o, h1, h2, h3, h4⟩ := hat i hi
  exact ⟨b, o, h1, h2, World.block_lt_of_cell? _ _ h4.1, h4⟩

def EqPost (w : World) (l1 l2 : List It) (e : Ending) (w' : World) : Prop := ∃ bl : Bool, e = .returned (.bool bl) ∧ (bl = true ↔ l1 = l2) ∧ Ext w w'

theorem equal_items {A B : Nat → Prop} (w : World) (v1 v2 : Value) (l1 l2 : List It) (h1 : SlV A (ItemAt w A) 3 v1 l1) (h2 : SlV B (ItemAt w B) 3 v2 l2) (hn1 : l1.length ≤ 1000) (hn2 : l2.length ≤ 1000) :
    Calls Try.prog 47 #[v1, v2, .func (.func 45) #[] #[]] w (EqPost w l1 l2) := by
  obtain ⟨a1, c1, rfl, -⟩ := h1.itAt
  obtain ⟨a2, c2, rfl, -⟩ := h2.itAt
  have H1 := Lib.hid h1
  have H2 := Lib.hid h2
  clear h1 h2
  by_cases hlen : l1.length = l2.length
  · obtain ⟨n, hn⟩ : ∃ n, l1.length = n := ⟨_, rfl⟩
    have hm : l2.length = n := by omega
    have hn' : n ≤ 1000 := by omega
    rw [hn] at H1 ⊢
    rw [hm] at H2 ⊢
    have HN1 := Lib.hid hn
    have HN2 := Lib.hid hm
    clear hlen hn hn1 hn2 hm
    go_enter Try.func47, Try.ntmps47
    go_wp2_with fail
    go_loopw [17] (fun i wr => ∃ k : Nat, k ≤ n ∧ i = .int .i64 k ∧ Hid (l1.take k = l2.take k) ∧ Hid (Ext w wr)) (fun i _ => n - (intOf i).toNat)
    case atStart => exact ⟨0, Nat.zero_le _, rfl, Lib.hid (by simp), Lib.hid (Keeps.refl _ _)⟩
    case round =>
      obtain ⟨k, hk, rfl, hh, hE⟩ := hrel
      by_cases hlt : k < n
      · obtain ⟨-, g1⟩ := (H1.out.itExt hE.out).itCells
        obtain ⟨b1, o1, rfl, hc1, hb1, i1, i2, bv1, i3, i4⟩ := g1 k (by rw [HN1.out]; exact hlt)
        obtain ⟨-, g2⟩ := (H2.out.itExt hE.out).itCells
        obtain ⟨b2, o2, rfl, hc2, hb2, j1, j2, bv2, j3, j4⟩ := g2 k (by rw [HN2.out]; exact hlt)
        have hs1 : l1.take (k + 1) = l1.take k ++ [l1[k]'(by rw [HN1.out]; exact hlt)] := List.take_succ_eq_append_getElem _
        have hs2 : l2.take (k + 1) = l2.take k ++ [l2[k]'(by rw [HN2.out]; exact hlt)] := List.take_succ_eq_append_getElem _
        generalize l1[k]'(by rw [HN1.out]; exact hlt) = x at i1 i2 i4 hs1
        generalize l2[k]'(by rw [HN2.out]; exact hlt) = y at j1 j2 j4 hs2
        obtain ⟨d1, e1, rfl⟩ := i4.len
        obtain ⟨d2, e2, rfl⟩ := j4.len
        have HS1 := Lib.hid hs1
        have HS2 := Lib.hid hs2
        have HI := Lib.hid i4
        have HJ := Lib.hid j4
        have hcc1 : n ≤ c1 := by rw [← HN1.out]; exact hc1
        have hcc2 : n ≤ c2 := by rw [← HN2.out]; exact hc2
        clear g1 g2 hs1 hs2 i4 j4 hc1 hc2
        go_wp2_with fail
        have hex : Ext wr ((wr.alloc (Obj.cells #[.bool x.side, .int .i64 x.key, .slice d1 x.bytes.length e1] 31)).alloc (Obj.cells #[.bool y.side, .int .i64 y.key, .slice d2 y.bytes.length e2] 31)) := ((Keeps.refl _ _).alloc _).alloc _
        refine (same1 _ x y _ _ ⟨_, rfl, HI.out.ext hex⟩ ⟨_, rfl, HJ.out.ext hex⟩).mono ?_
        rintro e w3 ⟨rfl, hE3⟩
        have HE3 := Lib.hid (hE.out.ext (hex.ext hE3))
        clear hex hE3
        cases hxy : sameI x y with
        | true =>
          have hxy' := sameI_eq hxy
          have HT : Hid (l1.take (k + 1) = l2.take (k + 1)) := Lib.hid (by rw [HS1.out, HS2.out, hh.out, hxy'])
          clear hxy hxy'
          go_wp2_with fail
          go_roundw
          case rel => exact ⟨k + 1, by omega, by go_num, HT, HE3⟩
          case measure => simp [intOf]; omega
        | false =>
          have HF : Hid (l1 ≠ l2) := by
            refine Lib.hid (fun h => ?_)
            have h3 : l1.take k ++ [x] = l1.take k ++ [y] := by
              rw [← HS1.out, h, HS2.out]
            have h4 := List.append_cancel_left h3
            simp only [List.cons.injEq, and_true] at h4
            rw [h4, sameI_self] at hxy
            cases hxy
          clear hxy
          go_wp2_with fail
          go_ret
          exact ⟨false, rfl, by simpa using HF.out, HE3.out⟩
      · obtain rfl : k = n := by omega
        have HT : Hid (l1 = l2) := by
          refine Lib.hid ?_
          have := hh.out
          rwa [List.take_of_length_le (by rw [HN1.out]; exact Nat.le_refl _), List.take_of_length_le (by rw [HN2.out]; exact Nat.le_refl _)] at this
        go_wp2_with fail
        go_ret
        exact ⟨true, rfl, by simpa using HT.out, hE.out⟩
  · have hne : ((l1.length : Int) == (l2.length : Int)) = false := by rw [beq_eq_false_iff_ne]; omega
    have hne2 : (l1.length == l2.length) = false := by rw [beq_eq_false_iff_ne]; omega
    have hne3 : ((l1.length : Int) != (l2.length : Int)) = true := by rw [bne_iff_ne]; omega
    have HL := Lib.hid hlen
    go_enter Try.func47, Try.ntmps47
    go_wp2_with fail
    go_ret
    refine ⟨false, rfl, ?_, Keeps.refl _ _⟩
    simp only [Bool.false_eq_true, false_iff]
    exact fun h => HL.out (by rw [h])
end Go.Proofs.Ytocjnieehogcbaa
