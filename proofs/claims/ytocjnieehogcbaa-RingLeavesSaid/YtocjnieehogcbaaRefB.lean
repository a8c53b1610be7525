/- The document's ring: Len and SameItem. Conditions: it lies as 'RefV' says. -/
import Derived.Test.YtocjnieehogcbaaRef
import Derived.Test.YtocjnieehogcbaaRingQ
set_option linter.unusedVariables false
set_option maxHeartbeats 400000
namespace Go.Proofs.Ytocjnieehogcbaa
open Go.RowKit

def sameI (x y : It) : Bool := x.side == y.side && x.key == y.key && x.bytes == y.bytes
theorem sameI_self (x : It) : sameI x x = true := by simp [sameI]
theorem sameI_eq {x y : It} (h : sameI x y = true) : x = y := by
  obtain ⟨a, b, c⟩ := x
  obtain ⟨a', b', c'⟩ := y
  simp [sameI] at h
  obtain ⟨⟨rfl, rfl⟩, rfl⟩ := h
  rfl

theorem same_item {A B : Nat → Prop} (w : World) (x y : It) (v v' : Value) (hv : ItemV w A v x) (hv' : ItemV w B v' y) :
    Calls Try.prog 21 #[v, v'] w fun e w' => e = .returned (.bool (sameI x y)) ∧ Ext w w' := by
  obtain ⟨bx, rfl, hx⟩ := hv
  obtain ⟨by', rfl, hy⟩ := hv'
  obtain ⟨a1, c1, rfl⟩ := hx.len
  obtain ⟨a2, c2, rfl⟩ := hy.len
  obtain ⟨xs, xk, xb⟩ := x
  obtain ⟨ys, yk, yb⟩ := y
  dsimp only at hx hy ⊢
  have e0 : Ext w ((w.alloc (Obj.cells #[.bool xs, .int .i64 xk, .slice a1 xb.length c1] 31)).alloc (Obj.cells #[.bool ys, .int .i64 yk, .slice a2 yb.length c2] 31)) := ((Keeps.refl _ _).alloc _).alloc _
  have hc1 := (hx.ext e0).str
  have hc2 := (hy.ext e0).str
  have HE := Lib.hid e0
  clear hx hy e0
  have hl1 := bs_toList xb
  have hl2 := bs_toList yb
  have hd : sameI ⟨xs, xk, xb⟩ ⟨ys, yk, yb⟩ = (xs == ys && xk == yk && xb == yb) := rfl
  have HD := Lib.hid hd
  clear hd
  by_cases h1 : xs = ys
  · subst h1
    by_cases h2 : xk = yk
    · subst h2
      go_enter Try.func21, Try.ntmps21
      go_wp2_with fail
      go_ret
      exact ⟨by rw [HD.out]; simp, HE.out⟩
    · have hk : (xk == yk) = false := beq_eq_false_iff_ne.2 h2
      go_enter Try.func21, Try.ntmps21
      go_wp2_with fail
      go_ret
      exact ⟨by rw [HD.out, hk]; simp, HE.out⟩
  · have hk : (xs == ys) = false := beq_eq_false_iff_ne.2 h1
    go_enter Try.func21, Try.ntmps21
    go_wp2_with fail
    go_ret
    exact ⟨by rw [HD.out, hk]; simp, HE.out⟩

theorem mains_take_le (l : List It) (k : Nat) : mains (l.take k) ≤ k := by
  have := mains_le (l.take k)
  rw [List.length_take] at this
  omega
theorem rlen_any {A : Nat → Prop} (w : World) (v : Value) (R : AR) (h : RefV w A v R) (hl : R.items.length ≤ 1000) (hA : ∀ k, A k → k < w.heap.size) :
    Calls Try.prog 44 #[v] w fun e w' => e = .returned (.tuple #[.int .i64 (mains R.items : Nat), .int .i64 (sides R.items : Nat)]) ∧ Ext w w' := by
  obtain ⟨sv, rfl, hs⟩ := h
  obtain ⟨a, c, rfl, hat⟩ := hs.itAt
  have HAT := Lib.hid hat
  have HA := Lib.hid hA
  clear hs hat hA
  go_enter Try.func44, Try.ntmps44
  go_wp2_with fail
  have bx0 := (Box.new w 48 [.int .i64 (R.most : Int), .slice a R.items.length c, .int .i64 (R.lost : Int)])
  have ex : Ext w (w.alloc (Obj.cells #[.int .i64 (R.most : Int), .slice a R.items.length c, .int .i64 (R.lost : Int)] 48)) := ((Keeps.refl NoB w).alloc _)
  have sx : (w.alloc (Obj.cells #[.int .i64 (R.most : Int), .slice a R.items.length c, .int .i64 (R.lost : Int)] 48)).heap.size = w.heap.size + 1 := by simp
  generalize (w.alloc (Obj.cells #[.int .i64 (R.most : Int), .slice a R.items.length c, .int .i64 (R.lost : Int)] 48)) = w0 at bx0 ex sx ⊢
  have Sx := Lib.hid sx
  clear sx
  obtain ⟨c0, z0⟩ := bx0.reads
  have l0 := bx0.lt
  have HE := Lib.hid ex
  clear ex bx0
  go_loop [4, 5] (fun m i => ∃ k : Nat, k ≤ R.items.length ∧ i = .int .i64 k ∧ m = .int .i64 (mains (R.items.take k) : Nat)) (fun _ i => R.items.length - (intOf i).toNat)
  case atStart => exact ⟨0, Nat.zero_le _, rfl, rfl⟩
  case round =>
    obtain ⟨k, hk, rfl, rfl⟩ := hrel
    have hmk := mains_take_le R.items k
    by_cases hlt : k < R.items.length
    · obtain ⟨b, o, rfl, hc, hAb, i1, i2, bv, i3, i4⟩ := HAT.out k hlt
      have hbl := HA.out b hAb
      have j1 := Ext.cell HE.out i1
      have hbl0 : b < w0.heap.size := Nat.lt_of_lt_of_le hbl HE.out.size
      have HM := Lib.hid (mains_succ R.items k hlt)
      clear i1 i2 i3 i4
      generalize R.items[k] = y at HM j1
      obtain ⟨ys, yk, yb⟩ := y
      dsimp only at j1
      cases ys with
      | false =>
        go_wp2_with fail
        go_round
        case rel => exact ⟨k + 1, by omega, by go_num, by rw [HM.out]; simp⟩
        case measure => simp [intOf]; omega
      | true =>
        go_wp2_with fail
        go_round
        case rel => exact ⟨k + 1, by omega, by go_num, by rw [HM.out]; simp⟩
        case measure => simp [intOf]; omega
    · obtain rfl : k = R.items.length := by omega
      have hms := mains_sides R.items
      rw [List.take_length]
      rw [List.take_length] at hmk
      obtain ⟨p, hp⟩ : ∃ p, mains R.items = p := ⟨_, rfl⟩
      obtain ⟨q, hq⟩ : ∃ q, sides R.items = q := ⟨_, rfl⟩
      rw [hp] at hmk hms ⊢
      rw [hq] at hms
      have HP := Lib.hid hp
      have HQ := Lib.hid hq
      have hsub : IntKind.i64.wrap ((R.items.length : Int) - (p : Int)) = (q : Int) := by rw [IntWalk.i64_in _ (by omega)]; omega
      clear hp hq hms
      go_wp2_with fail
      have hE0 : Keeps NoB w0 w0.drew := (Keeps.refl _ _).drew
      refine wp_region_plan [(0, 0), (0, 1), (3, 2), (0, 3), (0, 4), (0, 5), (0, 6), (0, 7)] [] [] [] (ClsE w0) (by kernel_rfl) (by kernel_rfl) (by kernel_rfl) rfl rfl (ClsE.of hE0) (fun _ _ _ d _ h => by cases d <;> exact h) ?_; simp only [planL, List.getElem?_toArray, List.getElem?_cons_succ, List.getElem?_cons_zero]
      refine plan_pure rfl (fun K hK => quiet_move' _ rfl (hK _ ?_)); clear hK K; simp only [Act.put, Act.eval, Array.getD_eq_getD_getElem?, List.getElem?_toArray, List.getElem?_cons_zero, List.getElem?_cons_succ, Option.getD_some, List.setIfInBounds_toArray, List.set_cons_zero, List.set_cons_succ]
      refine plan_pure rfl (fun K hK => quiet_run (v := ?_) (fun W _ => ?_) (hK _ ?_)); rotate_left; (go_simp <;> with_reducible rfl); clear hK K; simp only [Act.put, List.setIfInBounds_toArray, List.set_cons_zero, List.set_cons_succ]
      refine plan_exact rfl (fun K hK => quiet_runX (v := ?_) ?_ (hK _ ?_)); rotate_left; (go_simp <;> with_reducible rfl); clear hK K; simp only [Act.put, List.setIfInBounds_toArray, List.set_cons_zero, List.set_cons_succ]
      refine plan_pure rfl (fun K hK => quiet_run (v := ?_) (fun W _ => ?_) (hK _ ?_)); rotate_left; (go_simp <;> with_reducible rfl); clear hK K; simp only [Act.put, List.setIfInBounds_toArray, List.set_cons_zero, List.set_cons_succ]
      refine plan_pure rfl (fun K hK => quiet_move' _ rfl (hK _ ?_)); clear hK K; simp only [Act.put, Act.eval, Array.getD_eq_getD_getElem?, List.getElem?_toArray, List.getElem?_cons_zero, List.getElem?_cons_succ, Option.getD_some, List.setIfInBounds_toArray, List.set_cons_zero, List.set_cons_succ]
      refine plan_pure rfl (fun K hK => quiet_run (v := ?_) (fun W _ => ?_) (hK _ ?_)); rotate_left; (go_simp <;> with_reducible rfl); clear hK K; simp only [Act.put, List.setIfInBounds_toArray, List.set_cons_zero, List.set_cons_succ]
      refine plan_pure rfl (fun K hK => quiet_assign' _ rfl (hK _ ?_)); clear hK K; simp only [Act.put, Act.eval, Array.getD_eq_getD_getElem?, List.getElem?_toArray, List.getElem?_cons_zero, List.getElem?_cons_succ, Option.getD_some, List.setIfInBounds_toArray, List.set_cons_zero, List.set_cons_succ]
      refine plan_pure rfl (fun K hK => quiet_assign' _ rfl (hK _ ?_)); clear hK K; simp only [Act.put, Act.eval, Array.getD_eq_getD_getElem?, List.getElem?_toArray, List.getElem?_cons_zero, List.getElem?_cons_succ, Option.getD_some, List.setIfInBounds_toArray, List.set_cons_zero, List.set_cons_succ]
      refine plan_nil ?_; simp only [tailL, List.filterMap_nil]
      go_wp2_with fail
      go_ret2
      exact ⟨by rw [HP.out, HQ.out]; rfl, HE.out.drew⟩
end Go.Proofs.Ytocjnieehogcbaa
