/- The document's ring: Put. Conditions: it lies as 'RefV' says. -/
import Derived.Test.YtocjnieehogcbaaRefC
set_option linter.unusedVariables false
set_option maxHeartbeats 400000
namespace Go.Proofs.Ytocjnieehogcbaa
open Go.RowKit

def RPutPost (w : World) (A : Nat → Prop) (R : AR) (x : It) (e : Ending) (w' : World) : Prop :=
  ∃ v', e = .returned (.tuple #[v', .int .i64 ((R.put x).2.1 : Nat), .int .i64 ((R.put x).2.2 : Nat)]) ∧ RefV w' (fun k => A k ∨ (w.heap.size ≤ k ∧ k < w'.heap.size)) v' (R.put x).1 ∧ Ext w w'
theorem RPutPost.mk {w w' : World} {A : Nat → Prop} {R R' : AR} {x : It} {v' : Value} {n m : Nat} (hR : R.put x = (R', n, m)) (h : RefV w' (fun k => A k ∨ (w.heap.size ≤ k ∧ k < w'.heap.size)) v' R') (hk : Ext w w') :
    RPutPost w A R x (.returned (.tuple #[v', .int .i64 (n : Int), .int .i64 (m : Int)])) w' := by
  unfold RPutPost; rw [hR]; exact ⟨_, rfl, h, hk⟩

theorem rput_early {A B : Nat → Prop} (w : World) (v vx : Value) (R : AR) (x : It) (h : RefV w A v R) (hv : ItemV w B vx x) (hx : x.bytes.length ≤ 1000000) (he : (x.side = false ∧ x.key ≠ 0) ∨ (¬ (x.side = false ∧ x.key ≠ 0) ∧ 1024 < x.bytes.length)) :
    Calls Try.prog 42 #[v, vx] w (RPutPost w A R x) := by
  have HR := Lib.hid h
  obtain ⟨sv, rfl, hs⟩ := h
  obtain ⟨a, c, rfl, -⟩ := hs.itAt
  obtain ⟨bx, rfl, hb⟩ := hv
  obtain ⟨a2, c2, rfl⟩ := hb.len
  clear hs hb
  obtain ⟨xs, xk, xb⟩ := x
  dsimp only at he hx ⊢
  rcases he with ⟨rfl, hk⟩ | ⟨hn, hlong⟩
  · have hkb : (xk == 0) = false := beq_eq_false_iff_ne.2 hk
    have hput : R.put ⟨false, xk, xb⟩ = (R, 0, 2) := by unfold AR.put; rw [if_pos (by simp [hk])]
    have HP := Lib.hid hput
    clear hput
    go_enter Try.func42, Try.ntmps42
    go_wp2_with fail
    refine bodyPost_ret (v := .tuple #[.agg #[.int .i64 (R.most : Int), .slice a R.items.length c, .int .i64 (R.lost : Int)], .int .i64 0, .int .i64 2]) (by simp [results, Try.results42, go_sem]) rfl ?_
    exact RPutPost.mk (n := 0) (m := 2) HP.out ((HR.out.ext ((((Keeps.refl _ _).alloc _).alloc _).alloc _)).mono fun k hk => .inl hk) ((((Keeps.refl _ _).alloc _).alloc _).alloc _)
  · have hput : R.put ⟨xs, xk, xb⟩ = (R, 0, 3) := by
      unfold AR.put
      rw [if_neg (by cases xs <;> simp at hn ⊢; exact hn), if_pos hlong]
    have HP := Lib.hid hput
    clear hput
    have hkb : xs = false → (xk == 0) = true := by intro h; subst h; simp at hn; simp [hn]
    cases xs with
    | true =>
      clear hkb hn
      go_enter Try.func42, Try.ntmps42
      go_wp2_with fail
      refine bodyPost_ret (v := .tuple #[.agg #[.int .i64 (R.most : Int), .slice a R.items.length c, .int .i64 (R.lost : Int)], .int .i64 0, .int .i64 3]) (by simp [results, Try.results42, go_sem]) rfl ?_
      exact RPutPost.mk (n := 0) (m := 3) HP.out ((HR.out.ext ((((Keeps.refl _ _).alloc _).alloc _).alloc _)).mono fun k hk => .inl hk) ((((Keeps.refl _ _).alloc _).alloc _).alloc _)
    | false =>
      have hk0 : xk = 0 := by simpa using hn
      subst hk0
      clear hkb hn
      go_enter Try.func42, Try.ntmps42
      go_wp2_with fail
      refine bodyPost_ret (v := .tuple #[.agg #[.int .i64 (R.most : Int), .slice a R.items.length c, .int .i64 (R.lost : Int)], .int .i64 0, .int .i64 3]) (by simp [results, Try.results42, go_sem]) rfl ?_
      exact RPutPost.mk (n := 0) (m := 3) HP.out ((HR.out.ext ((((Keeps.refl _ _).alloc _).alloc _).alloc _)).mono fun k hk => .inl hk) ((((Keeps.refl _ _).alloc _).alloc _).alloc _)

theorem pside_p33 (x : It) (h : x.side = true) : p33 x = pside false x.key := by
  funext y; unfold p33 pside; rw [h]; simp
theorem pside_p34 : p34 = pside true 0 := by
  funext y; unfold p34 pside; simp
theorem p33_main (x : It) (l : List It) (h : x.side = false) : l.findIdx? (p33 x) = none := by
  rw [List.findIdx?_eq_none_iff]
  intro y _
  unfold p33; rw [h]; rfl

end Go.Proofs.Ytocjnieehogcbaa
