/- Which rings of the document are the same. Conditions: they lie as 'RefX' says. -/
import Derived.Test.YtocjnieehogcbaaCopy
set_option linter.unusedVariables false
set_option maxHeartbeats 400000
namespace Go.Proofs.Ytocjnieehogcbaa
open Go.RowKit

theorem rsame_head {M M' : Nat → Prop} (w : World) (v v' : Value) (R R' : AR) (h1 : RefX w M v R) (h2 : RefX w M' v' R') (hne : R.most ≠ R'.most ∨ (R.most = R'.most ∧ R.lost ≠ R'.lost) ∨ (R.most = R'.most ∧ R.lost = R'.lost ∧ R.items.length ≠ R'.items.length)) :
    Calls Try.prog 26 #[v, v'] w (SamePost w R R') := by
  have H1 := Lib.hid h1
  have H2 := Lib.hid h2
  obtain ⟨a1, c1, rfl⟩ := h1.len
  obtain ⟨a2, c2, rfl⟩ := h2.len
  have heq := AR.eq_iff R R'
  have HEQ := Lib.hid heq
  clear h1 h2 heq
  have hF : ¬ R = R' := fun h => by
    rcases hne with h1 | h1 | h1
    · exact h1 (by rw [h])
    · exact h1.2 (by rw [h])
    · exact h1.2.2 (by rw [h])
  have HF := Lib.hid hF
  clear hF
  rcases hne with h | ⟨he, h⟩ | ⟨he, he', h⟩
  · have g1 : ((R.most : Int) == (R'.most : Int)) = false := by rw [beq_eq_false_iff_ne]; omega
    have g2 : (R.most == R'.most) = false := by rw [beq_eq_false_iff_ne]; exact h
    have g3 : ((R.most : Int) != (R'.most : Int)) = true := by rw [bne_iff_ne]; omega
    have g4 : (R.most != R'.most) = true := by rw [bne_iff_ne]; exact h
    clear h
    go_enter Try.func26, Try.ntmps26
    go_wp2_with fail
    go_ret
    exact ⟨false, rfl, by simpa using HF.out, ((Keeps.refl _ _).alloc _).alloc _⟩
  · have g1 : ((R.lost : Int) == (R'.lost : Int)) = false := by rw [beq_eq_false_iff_ne]; omega
    have g2 : (R.lost == R'.lost) = false := by rw [beq_eq_false_iff_ne]; exact h
    have g3 : ((R.lost : Int) != (R'.lost : Int)) = true := by rw [bne_iff_ne]; omega
    have g4 : (R.lost != R'.lost) = true := by rw [bne_iff_ne]; exact h
    clear h
    rw [← he]
    go_enter Try.func26, Try.ntmps26
    go_wp2_with fail
    go_ret
    exact ⟨false, rfl, by simpa using HF.out, ((Keeps.refl _ _).alloc _).alloc _⟩
  · have g1 : ((R.items.length : Int) == (R'.items.length : Int)) = false := by rw [beq_eq_false_iff_ne]; omega
    have g2 : (R.items.length == R'.items.length) = false := by rw [beq_eq_false_iff_ne]; exact h
    have g3 : ((R.items.length : Int) != (R'.items.length : Int)) = true := by rw [bne_iff_ne]; omega
    have g4 : (R.items.length != R'.items.length) = true := by rw [bne_iff_ne]; exact h
    clear h
    rw [← he, ← he']
    go_enter Try.func26, Try.ntmps26
    go_wp2_with fail
    go_ret
    exact ⟨false, rfl, by simpa using HF.out, ((Keeps.refl _ _).alloc _).alloc _⟩

theorem rsame_tail {M M' : Nat → Prop} (w : World) (v v' : Value) (m lo n : Nat) (l1 l2 : List It) (h1 : RefX w M v ⟨m, lo, l1⟩) (h2 : RefX w M' v' ⟨m, lo, l2⟩) (hn1 : l1.length = n) (hn2 : l2.length = n) (hn : n ≤ 1000) :
    Calls Try.prog 26 #[v, v'] w (EqPost w l1 l2) := by
  have H1 := Lib.hid h1
  have H2 := Lib.hid h2
  obtain ⟨a1, c1, rfl⟩ := h1.len
  obtain ⟨a2, c2, rfl⟩ := h2.len
  dsimp only at H1 H2 ⊢
  rw [hn1] at H1 ⊢
  rw [hn2] at H2 ⊢
  have HN1 := Lib.hid hn1
  have HN2 := Lib.hid hn2
  clear h1 h2 hn1 hn2
  go_enter Try.func26, Try.ntmps26
  go_wp2_with fail
  have bx0 := ((Box.new w 48 [.int .i64 (m : Int), .slice a1 n c1, .int .i64 (lo : Int)]).alloc (Obj.cells #[.int .i64 (m : Int), .slice a2 n c2, .int .i64 (lo : Int)] 48))
  have bx1 := (Box.new (w.alloc (Obj.cells #[.int .i64 (m : Int), .slice a1 n c1, .int .i64 (lo : Int)] 48)) 48 [.int .i64 (m : Int), .slice a2 n c2, .int .i64 (lo : Int)])
  have ex : Ext w ((w.alloc (Obj.cells #[.int .i64 (m : Int), .slice a1 n c1, .int .i64 (lo : Int)] 48)).alloc (Obj.cells #[.int .i64 (m : Int), .slice a2 n c2, .int .i64 (lo : Int)] 48)) := (((Keeps.refl NoB w).alloc _).alloc _)
  have sx : ((w.alloc (Obj.cells #[.int .i64 (m : Int), .slice a1 n c1, .int .i64 (lo : Int)] 48)).alloc (Obj.cells #[.int .i64 (m : Int), .slice a2 n c2, .int .i64 (lo : Int)] 48)).heap.size = w.heap.size + 2 := by simp
  simp only [World.size_alloc] at bx1
  generalize ((w.alloc (Obj.cells #[.int .i64 (m : Int), .slice a1 n c1, .int .i64 (lo : Int)] 48)).alloc (Obj.cells #[.int .i64 (m : Int), .slice a2 n c2, .int .i64 (lo : Int)] 48)) = w0 at bx0 bx1 ex sx ⊢
  have Sx := Lib.hid sx
  clear sx
  have BX0 := Lib.hid bx0
  have BX1 := Lib.hid bx1
  have HE0 := Lib.hid ex
  clear ex bx0 bx1
  go_loopw [5] (fun i wr => ∃ k : Nat, k ≤ n ∧ i = .int .i64 k ∧ Hid (l1.take k = l2.take k) ∧ Hid (Ext w0 wr)) (fun i _ => n - (intOf i).toNat)
  case atStart => exact ⟨0, Nat.zero_le _, rfl, Lib.hid (by simp), Lib.hid (Keeps.refl _ _)⟩
  case round =>
    obtain ⟨k, hk, rfl, hh, hE⟩ := hrel
    have b0 := BX0.out.ext hE.out
    have b1 := BX1.out.ext hE.out
    obtain ⟨p0, z0⟩ := b0.reads
    obtain ⟨p1, z1⟩ := b1.reads
    have q0 := b0.lt
    have q1 := b1.lt
    clear b0 b1
    by_cases hlt : k < n
    · obtain ⟨-, g1⟩ := (H1.out.ext (HE0.out.ext hE.out)).itAt
      obtain ⟨A1, b1, o1, rfl, hc1, hb1, i1, i2, bv1, i3, i4⟩ := g1 k (by dsimp only; rw [HN1.out]; exact hlt)
      obtain ⟨-, g2⟩ := (H2.out.ext (HE0.out.ext hE.out)).itAt
      obtain ⟨A2, b2, o2, rfl, hc2, hb2, j1, j2, bv2, j3, j4⟩ := g2 k (by dsimp only; rw [HN2.out]; exact hlt)
      have hs1 : l1.take (k + 1) = l1.take k ++ [l1[k]'(by rw [HN1.out]; exact hlt)] := List.take_succ_eq_append_getElem _
      have hs2 : l2.take (k + 1) = l2.take k ++ [l2[k]'(by rw [HN2.out]; exact hlt)] := List.take_succ_eq_append_getElem _
      dsimp only at i1 i2 i3 i4 j1 j2 j3 j4 hc1 hc2
      generalize l1[k]'(by rw [HN1.out]; exact hlt) = x at i1 i2 i4 hs1
      generalize l2[k]'(by rw [HN2.out]; exact hlt) = y at j1 j2 j4 hs2
      obtain ⟨d1, e1, rfl⟩ := i4.len
      obtain ⟨d2, e2, rfl⟩ := j4.len
      have HS1 := Lib.hid hs1
      have HS2 := Lib.hid hs2
      have HI := Lib.hid i4
      have HJ := Lib.hid j4
      have hcc1 : n ≤ c1 := by rw [← HN1.out]; exact hc1
      have hcc2 : n ≤ c2 := by rw [← HN2.out]; exact hc2
      clear g1 g2 hs1 hs2 i4 j4 hc1 hc2
      go_wp2_with fail
      have hE0 : Keeps NoB wr wr.drew := (Keeps.refl _ _).drew
      refine wp_region_plan [(0, 0), (3, 1), (0, 2), (0, 3), (3, 4), (0, 5), (3, 6), (0, 7), (0, 8), (3, 9)] [] [10, 11] [10, 11] (ClsE wr) (by kernel_rfl) (by kernel_rfl) (by kernel_rfl) rfl rfl (ClsE.of hE0) (fun _ _ _ d _ h => by cases d <;> exact h) ?_; simp only [planL, List.getElem?_toArray, List.getElem?_cons_succ, List.getElem?_cons_zero]
      refine plan_pure rfl (fun K hK => quiet_run (v := ?_) (fun W _ => ?_) (hK _ ?_)); rotate_left; (go_simp <;> with_reducible rfl); clear hK K; simp only [Act.put, List.setIfInBounds_toArray, List.set_cons_zero, List.set_cons_succ]
      refine plan_exact rfl (fun K hK => quiet_runX (v := ?_) ?_ (hK _ ?_)); rotate_left; (go_simp <;> with_reducible rfl); clear hK K; simp only [Act.put, List.setIfInBounds_toArray, List.set_cons_zero, List.set_cons_succ]
      refine plan_pure rfl (fun K hK => quiet_move' _ rfl (hK _ ?_)); clear hK K; simp only [Act.put, Act.eval, Array.getD_eq_getD_getElem?, List.getElem?_toArray, List.getElem?_cons_zero, List.getElem?_cons_succ, Option.getD_some, List.setIfInBounds_toArray, List.set_cons_zero, List.set_cons_succ]
      refine plan_pure rfl (fun K hK => quiet_run (v := ?_) (fun W _ => ?_) (hK _ ?_)); rotate_left; (go_simp <;> with_reducible rfl); clear hK K; simp only [Act.put, List.setIfInBounds_toArray, List.set_cons_zero, List.set_cons_succ]
      refine plan_exact rfl (fun K hK => quiet_runX (v := ?_) ?_ (hK _ ?_)); rotate_left; (go_simp <;> with_reducible rfl); clear hK K; simp only [Act.put, List.setIfInBounds_toArray, List.set_cons_zero, List.set_cons_succ]
      refine plan_pure rfl (fun K hK => quiet_run (v := ?_) (fun W _ => ?_) (hK _ ?_)); rotate_left; (go_simp <;> with_reducible rfl); clear hK K; simp only [Act.put, List.setIfInBounds_toArray, List.set_cons_zero, List.set_cons_succ]
      refine plan_exact rfl (fun K hK => quiet_runX (v := ?_) ?_ (hK _ ?_)); rotate_left; (go_simp <;> with_reducible rfl); clear hK K; simp only [Act.put, List.setIfInBounds_toArray, List.set_cons_zero, List.set_cons_succ]
      refine plan_pure rfl (fun K hK => quiet_move' _ rfl (hK _ ?_)); clear hK K; simp only [Act.put, Act.eval, Array.getD_eq_getD_getElem?, List.getElem?_toArray, List.getElem?_cons_zero, List.getElem?_cons_succ, Option.getD_some, List.setIfInBounds_toArray, List.set_cons_zero, List.set_cons_succ]
      refine plan_pure rfl (fun K hK => quiet_run (v := ?_) (fun W _ => ?_) (hK _ ?_)); rotate_left; (go_simp <;> with_reducible rfl); clear hK K; simp only [Act.put, List.setIfInBounds_toArray, List.set_cons_zero, List.set_cons_succ]
      refine plan_exact rfl (fun K hK => quiet_runX (v := ?_) ?_ (hK _ ?_)); rotate_left; (go_simp <;> with_reducible rfl); clear hK K; simp only [Act.put, List.setIfInBounds_toArray, List.set_cons_zero, List.set_cons_succ]
      refine plan_nil ?_; simp only [tailL, List.filterMap_cons, List.filterMap_nil, List.getElem?_toArray, List.getElem?_cons_succ, List.getElem?_cons_zero]; change wpList _ _ _ (_ :: _ :: []) _ _
      go_wp2_with fail
      refine (same_item _ x y _ _ ⟨_, rfl, HI.out.ext hE0⟩ ⟨_, rfl, HJ.out.ext hE0⟩).mono ?_
      rintro e w3 ⟨rfl, hE3⟩
      have HE3 := Lib.hid (hE.out.ext (Keeps.ext hE0 hE3))
      clear hE3 hE0
      cases hxy : sameI x y with
      | true =>
        have hxy' := sameI_eq hxy
        have HT : Hid (l1.take (k + 1) = l2.take (k + 1)) := Lib.hid (by rw [HS1.out, HS2.out, hh.out, hxy'])
        clear hxy hxy'
        go_wp2_with fail
        go_roundw
        case rel => exact ⟨k + 1, by omega, by go_num, HT, HE3⟩
        case measure => simp [intOf]; omega
      | false =>
        have HF : Hid (l1 ≠ l2) := by
          refine Lib.hid (fun h => ?_)
          have h3 : l1.take k ++ [x] = l1.take k ++ [y] := by
            rw [← HS1.out, h, HS2.out]
          have h4 := List.append_cancel_left h3
          simp only [List.cons.injEq, and_true] at h4
          rw [h4, sameI_self] at hxy
          cases hxy
        clear hxy
        go_wp2_with fail
        go_ret
        exact ⟨false, rfl, by simpa using HF.out, HE0.out.ext HE3.out⟩
    · obtain rfl : k = n := by omega
      have HT : Hid (l1 = l2) := by
        refine Lib.hid ?_
        have := hh.out
        rwa [List.take_of_length_le (by rw [HN1.out]; exact Nat.le_refl _), List.take_of_length_le (by rw [HN2.out]; exact Nat.le_refl _)] at this
      go_wp2_with fail
      go_ret
      exact ⟨true, rfl, by simpa using HT.out, HE0.out.ext hE.out⟩

theorem rsame_any {M M' : Nat → Prop} (w : World) (v v' : Value) (R R' : AR) (h1 : RefX w M v R) (h2 : RefX w M' v' R') (hn : R.items.length ≤ 1000) :
    Calls Try.prog 26 #[v, v'] w (SamePost w R R') := by
  by_cases e1 : R.most = R'.most
  · by_cases e2 : R.lost = R'.lost
    · by_cases e3 : R.items.length = R'.items.length
      · obtain ⟨m, lo, l1⟩ := R
        obtain ⟨m', lo', l2⟩ := R'
        dsimp only at e1 e2 e3 hn
        subst e1 e2
        refine (rsame_tail w v v' m lo l1.length l1 l2 h1 h2 rfl e3.symm hn).mono ?_
        rintro e w' ⟨bl, he, hb, hE⟩
        exact ⟨bl, he, by rw [hb]; simp, hE⟩
      · exact rsame_head w v v' R R' h1 h2 (.inr (.inr ⟨e1, e2, e3⟩))
    · exact rsame_head w v v' R R' h1 h2 (.inr (.inl ⟨e1, e2⟩))
  · exact rsame_head w v v' R R' h1 h2 (.inl e1)
end Go.Proofs.Ytocjnieehogcbaa
