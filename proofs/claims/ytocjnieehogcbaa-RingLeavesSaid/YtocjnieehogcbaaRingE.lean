/- The ring's Take, All and what All's iterator hands on. Conditions: the ring is laid out as 'RingAt' says. -/
import Derived.Test.YtocjnieehogcbaaRingD
set_option linter.unusedVariables false
set_option maxHeartbeats 400000
namespace Go.Proofs.Ytocjnieehogcbaa
open Go.RowKit

/-- the first item gone -/
theorem RingAt.taken {w : World} {A : Nat → Prop} {b f q m l : Nat} {x : It} {r : List It} (h : RingAt w A b f ⟨m, l, x :: r⟩) (hA : ¬ A b) (hq : (f + 0) % m = q) :
    RingAt (((((w.setCell ⟨b, 4 + q * 3, none⟩ (.bool false)).setCell ⟨b, 4 + q * 3 + 1, none⟩ (.int .i64 0)).setCell ⟨b, 4 + q * 3 + 2, none⟩ (.slice none 0 0)).setCell ⟨b, 0, none⟩ (.int .i64 (((f + 1) % m : Nat) : Int))).setCell ⟨b, 1, none⟩ (.int .i64 (r.length : Int)))
      A b ((f + 1) % m) ⟨m, l, r⟩ := by
  have hm : m ≤ 64 := h.hm
  have hf : f < m := h.hf
  have hlm : r.length + 1 ≤ m := h.hl
  have hq64 : q < 64 := by have := Nat.mod_lt (f + 0) (show 0 < m by omega); omega
  have h1 := (RingAt.store3 (B := A) (x := ⟨false, 0, []⟩) (bv := .slice none 0 0) (R' := ⟨m, l, ⟨false, 0, []⟩ :: r⟩) h hA hq64 (.inl ⟨none, rfl, rfl⟩) hA rfl rfl rfl (by
    intro i hi
    by_cases hiq : (f + i) % m = q
    · obtain rfl : i = 0 := mod_inj (f := f) (m := m) (by simp at hi; omega) (by omega) (hiq.trans hq.symm)
      rw [if_pos hq]; rfl
    · rw [if_neg hiq]
      cases i with
      | zero => exact (hiq hq).elim
      | succ i => rfl)).mono (A' := A) (fun _ h => h.elim id id)
  dsimp only at h1
  generalize hw3 : ((w.setCell ⟨b, 4 + q * 3, none⟩ (.bool false)).setCell ⟨b, 4 + q * 3 + 1, none⟩ (.int .i64 0)).setCell ⟨b, 4 + q * 3 + 2, none⟩ (.slice none 0 0) = w3 at h1 ⊢
  have hk : Keeps (OneB b) w3 ((w3.setCell ⟨b, 0, none⟩ (.int .i64 (((f + 1) % m : Nat) : Int))).setCell ⟨b, 1, none⟩ (.int .i64 (r.length : Int))) := ((Keeps.refl (OneB b) w3).setOne _ _).setOne _ _
  have hAn : ∀ k, A k → ¬ OneB b k := fun k h1 h2 => hA (by unfold OneB at h2; rwa [← h2])
  have sm : ∀ o, o < 196 → (w3.cell? ⟨b, o, none⟩).isSome = true := fun o ho => by obtain ⟨v, hv⟩ := h1.has o ho; rw [hv]; rfl
  refine ⟨fun o => by simp [h1.fz], fun o ho => has_set _ (has_set _ (h1.has o ho)), ?_, ?_, ?_, ?_, Nat.mod_lt _ (by omega), hm, by show r.length ≤ m; omega, ?_⟩
  · rw [cell_keep _ _ _ _ _ _ (by omega), cell_put _ _ _ _ (sm 0 (by omega))]
  · rw [cell_put _ _ _ _ (by rw [cell_keep _ _ _ _ _ _ (by omega)]; exact sm 1 (by omega))]
  · rw [cell_keep _ _ _ _ _ _ (by omega), cell_keep _ _ _ _ _ _ (by omega)]; exact h1.c2
  · rw [cell_keep _ _ _ _ _ _ (by omega), cell_keep _ _ _ _ _ _ (by omega)]; exact h1.c3
  · intro i hi
    obtain ⟨i1, i2, v, i3, i4⟩ := h1.it (i + 1) (by simpa using hi)
    have he : ((f + 1) % m + i) % m = (f + (i + 1)) % m := by rw [Nat.mod_add_mod]; congr 1; omega
    show ItemAt _ _ b (4 + (((f + 1) % m + i) % m) * 3) r[i]
    rw [he]
    refine ⟨?_, ?_, v, ?_, i4.keeps hk hAn⟩
    all_goals rw [cell_keep _ _ _ _ _ _ (by omega), cell_keep _ _ _ _ _ _ (by omega)]
    all_goals assumption

theorem take_none (w : World) (p : Option Addr) (h : Nonish w p) :
    Calls Try.prog 16 #[.pointer p] w fun e w' => e = .returned (.tuple #[.agg #[.bool false, .int .i64 0, .slice none 0 0], .bool false]) ∧ Ext w w' := by
  have HN := Lib.hid h
  clear h
  go_enter Try.func16, Try.ntmps16
  go_wp2_with fail
  refine (none_none _ p (HN.out.ext ((Keeps.refl _ _).alloc _))).mono ?_
  rintro e w' ⟨rfl, rfl⟩
  go_wp2
  exact bodyPost_ret (v := .tuple #[.agg #[.bool false, .int .i64 0, .slice none 0 0], .bool false]) (by simp [results, Try.results16, go_sem]) rfl ⟨rfl, by repeat (first | exact Keeps.refl _ _ | refine Keeps.alloc ?_ _ | refine Keeps.setNew ?_ _ _ (by simp; done))⟩

theorem take_empty {A : Nat → Prop} (w : World) (b f m l : Nat) (h : RingAt w A b f ⟨m, l, []⟩) :
    Calls Try.prog 16 #[.pointer (some ⟨b, 0, none⟩)] w fun e w' => e = .returned (.tuple #[.agg #[.bool false, .int .i64 0, .slice none 0 0], .bool false]) ∧ Ext w w' := by
  have g1 := h.c1
  have hbl := h.lt
  simp only [List.length_nil] at g1
  have HR := Lib.hid h
  clear h
  go_enter Try.func16, Try.ntmps16
  go_wp2_with fail
  refine (none_ring (HR.out.ext ((Keeps.refl _ _).alloc _))).mono ?_
  rintro e w' ⟨rfl, rfl⟩
  go_wp2
  exact bodyPost_ret (v := .tuple #[.agg #[.bool false, .int .i64 0, .slice none 0 0], .bool false]) (by simp [results, Try.results16, go_sem]) rfl ⟨rfl, by repeat (first | exact Keeps.refl _ _ | refine Keeps.alloc ?_ _ | refine Keeps.setNew ?_ _ _ (by simp; done))⟩

set_option maxHeartbeats 2000000 in
theorem take_ring {A : Nat → Prop} (w : World) (b f m l : Nat) (x : It) (r : List It) (h : RingAt w A b f ⟨m, l, x :: r⟩) (hA : ¬ A b) (hAl : ∀ k, A k → k < w.heap.size) :
    Calls Try.prog 16 #[.pointer (some ⟨b, 0, none⟩)] w fun e w' =>
      ∃ v, e = .returned (.tuple #[v, .bool true]) ∧ ItemV w' A v x ∧ RingAt w' A b ((f + 1) % m) ⟨m, l, r⟩ ∧ Keeps (OneB b) w w' := by
  have g1 := h.c1
  have hbl := h.lt
  have hm : m ≤ 64 := h.hm
  have hf : f < m := h.hf
  have hlm : r.length + 1 ≤ m := h.hl
  have g1' : w.cell? ⟨b, 1, none⟩ = some (.int .i64 ((r.length : Int) + 1)) := by rw [g1]; simp
  have hz : (((r.length : Int) + 1) == 0) = false := by rw [beq_eq_false_iff_ne]; omega
  have HR := Lib.hid h
  clear h g1
  obtain ⟨q, hq⟩ : ∃ q, (f + 0) % m = q := ⟨_, rfl⟩
  have hq64 : q < 64 := by have := Nat.mod_lt (f + 0) (show 0 < m by omega); omega
  have HQ := Lib.hid hq
  clear hq
  go_enter Try.func16, Try.ntmps16
  go_wp2_with fail
  refine (none_ring (HR.out.ext ((Keeps.refl _ _).alloc _))).mono ?_
  rintro e w' ⟨rfl, rfl⟩
  go_wp2_with fail
  have ba0 := (Box.new w 31 [.bool false, .int .i64 0, .slice none 0 0])
  have ea : Ext w (w.alloc (Obj.cells #[.bool false, .int .i64 0, .slice none 0 0] 31)) := ((Keeps.refl NoB w).alloc _)
  have sa : (w.alloc (Obj.cells #[.bool false, .int .i64 0, .slice none 0 0] 31)).heap.size = w.heap.size + 1 := by simp
  generalize (w.alloc (Obj.cells #[.bool false, .int .i64 0, .slice none 0 0] 31)) = w0 at ba0 ea sa ⊢
  have Sa := Lib.hid sa
  clear sa
  have HR0 := Lib.hid (HR.out.ext ea)
  refine (at_ring HR0.out 0 (by omega) _ (by rfl) q HQ.out).mono ?_
  rintro e W1 ⟨rfl, hW1⟩
  have hr1 := HR0.out.ext hW1
  obtain ⟨i1, i2, bv, i3, i4⟩ := hr1.it 0 (by simp)
  simp only [HQ.out, List.getElem_cons_zero] at i1 i2 i3
  obtain ⟨a, c, rfl⟩ := i4.len
  have HI := Lib.hid i4
  have HR1 := Lib.hid hr1
  have HE1 := Lib.hid (ea.ext hW1)
  have B0 := Lib.hid (ba0.ext hW1)
  have hlt1 := (ba0.ext hW1).lt
  clear hr1 i4 hW1 ea ba0
  dsimp only [List.getElem_cons_zero] at i1 i2 i3
  go_wp2_with fail
  have bc0 := (Box.new W1 31 [.bool x.side, .int .i64 x.key, .slice a x.bytes.length c])
  have ec : Ext W1 (W1.alloc (Obj.cells #[.bool x.side, .int .i64 x.key, .slice a x.bytes.length c] 31)) := ((Keeps.refl NoB W1).alloc _)
  have sc : (W1.alloc (Obj.cells #[.bool x.side, .int .i64 x.key, .slice a x.bytes.length c] 31)).heap.size = W1.heap.size + 1 := by simp
  generalize (W1.alloc (Obj.cells #[.bool x.side, .int .i64 x.key, .slice a x.bytes.length c] 31)) = W2 at bc0 ec sc ⊢
  have Sc := Lib.hid sc
  clear sc
  have HR2 := Lib.hid (HR1.out.ext ec)
  refine (at_ring HR2.out 0 (by omega) _ (by rfl) q HQ.out).mono ?_
  rintro e W3 ⟨rfl, hW3⟩
  have hr3 := HR2.out.ext hW3
  obtain ⟨z0, hz0⟩ := hr3.has (4 + q * 3) (by omega)
  obtain ⟨z1, hz1⟩ := hr3.has (4 + q * 3 + 1) (by omega)
  obtain ⟨z2, hz2⟩ := hr3.has (4 + q * 3 + 2) (by omega)
  have hfz := hr3.fz
  have HR3 := Lib.hid hr3
  have B1 := Lib.hid (bc0.ext hW3)
  have B0' := Lib.hid ((B0.out.ext ec).ext hW3)
  have HE3 := Lib.hid ((HE1.out.ext ec).ext hW3)
  have HI3 := Lib.hid ((HI.out.ext ec).ext hW3)
  clear hr3 hW3 ec bc0 i1 i2 i3
  go_wp2_with fail
  -- the world behind the zero item
  have hr4 := (RingAt.store3 (B := A) (x := ⟨false, 0, []⟩) (bv := .slice none 0 0) (R' := ⟨m, l, ⟨false, 0, []⟩ :: r⟩) HR3.out hA hq64 (.inl ⟨none, rfl, rfl⟩) hA rfl rfl rfl (by
    intro i hi
    by_cases hiq : (f + i) % m = q
    · obtain rfl : i = 0 := mod_inj (f := f) (m := m) (by simp at hi; omega) (by omega) (hiq.trans HQ.out.symm)
      rw [if_pos HQ.out]; rfl
    · rw [if_neg hiq]
      cases i with
      | zero => exact (hiq HQ.out).elim
      | succ i => rfl)).mono (A' := A) (fun _ h => h.elim id id)
  dsimp only at hr4
  obtain ⟨W4, hW4⟩ : ∃ W4, ((W3.setCell ⟨b, 4 + q * 3, none⟩ (.bool false)).setCell ⟨b, 4 + q * 3 + 1, none⟩ (.int .i64 0)).setCell ⟨b, 4 + q * 3 + 2, none⟩ (.slice none 0 0) = W4 := ⟨_, rfl⟩
  rw [hW4] at hr4 ⊢
  have h0 := hr4.c0
  have h1 := hr4.c1
  have h1' : W4.cell? ⟨b, 1, none⟩ = some (.int .i64 ((r.length : Int) + 1)) := by rw [h1]; simp
  have h3 := hr4.c3
  have hb4 := hr4.lt
  have hfz4 := hr4.fz
  have hs : IntKind.i64.wrap ((f : Int) + 1) = ((f + 1 : Nat) : Int) := by rw [IntWalk.i64_in _ (by omega)]; simp
  have hs2 : IntKind.i64.wrap ((r.length : Int) + 1 - 1) = (r.length : Int) := by rw [IntWalk.i64_in _ (by omega)]; omega
  have hk34 : Keeps (OneB b) W3 W4 := by rw [← hW4]; exact (((Keeps.refl (OneB b) W3).setOne _ _).setOne _ _).setOne _ _
  have hszE := HE1.out.size
  have hszC := Sc.out
  have b1 := B1.out.keeps hk34 (by unfold OneB; omega)
  have b0 := B0'.out.keeps hk34 (by unfold OneB; omega)
  obtain ⟨c1, y1⟩ := b1.reads
  obtain ⟨c0, y0⟩ := b0.reads
  have l1 := b1.lt
  have l0 := b0.lt
  have n1 : ¬ (b = W1.heap.size) := by omega
  have n0 : ¬ (b = w.heap.size) := by omega
  have n1' : ¬ (W1.heap.size = b) := by omega
  have n0' : ¬ (w.heap.size = b) := by omega
  have HK34 := Lib.hid hk34
  clear h1 hz0 hz1 hz2 hfz hk34 b1 b0 hszC
  dsimp only at h0 h3
  have HR4 := Lib.hid hr4
  have HW4 := Lib.hid hW4
  clear hr4 hW4
  have hE0 : Keeps NoB W4 W4.drew := (Keeps.refl _ _).drew
  refine wp_region_plan [(0, 0), (0, 1), (0, 2), (0, 3), (0, 4), (0, 5), (3, 6), (0, 7), (0, 8), (0, 9), (0, 10), (3, 11), (0, 13), (0, 14), (0, 15), (0, 16), (1, 17), (0, 18), (2, 12), (0, 19), (0, 20), (0, 21)] [17] [12, 22, 23, 24, 25, 26] [22, 23, 24, 25, 26] (ClsE W4) (by kernel_rfl) (by kernel_rfl) (by kernel_rfl) rfl rfl (ClsE.of hE0) (fun _ _ _ d _ h => by cases d <;> exact h) ?_; simp only [planL, List.getElem?_toArray, List.getElem?_cons_succ, List.getElem?_cons_zero]
  refine plan_pure rfl (fun K hK => quiet_move' _ rfl (hK _ ?_)); clear hK K; simp only [Act.put, Act.eval, Array.getD_eq_getD_getElem?, List.getElem?_toArray, List.getElem?_cons_zero, Option.getD_some, List.setIfInBounds_toArray, List.set_cons_zero, List.set_cons_succ]
  refine plan_pure rfl (fun K hK => quiet_move' _ rfl (hK _ ?_)); clear hK K; simp only [Act.put, Act.eval, Array.getD_eq_getD_getElem?, List.getElem?_toArray, List.getElem?_cons_zero, Option.getD_some, List.setIfInBounds_toArray, List.set_cons_zero, List.set_cons_succ]
  refine plan_pure rfl (fun K hK => quiet_move' _ rfl (hK _ ?_)); clear hK K; simp only [Act.put, Act.eval, Array.getD_eq_getD_getElem?, List.getElem?_toArray, List.getElem?_cons_zero, Option.getD_some, List.setIfInBounds_toArray, List.set_cons_zero, List.set_cons_succ]
  refine plan_pure rfl (fun K hK => quiet_run (v := ?_) (fun W _ => ?_) (hK _ ?_)); rotate_left; (go_simp <;> with_reducible rfl); clear hK K; simp only [Act.put, List.setIfInBounds_toArray, List.set_cons_zero, List.set_cons_succ]
  refine plan_pure rfl (fun K hK => quiet_run (v := ?_) (fun W _ => ?_) (hK _ ?_)); rotate_left; (go_simp <;> with_reducible rfl); clear hK K; simp only [Act.put, List.setIfInBounds_toArray, List.set_cons_zero, List.set_cons_succ]
  refine plan_pure rfl (fun K hK => quiet_run (v := ?_) (fun W _ => ?_) (hK _ ?_)); rotate_left; (go_simp <;> with_reducible rfl); clear hK K; simp only [Act.put, List.setIfInBounds_toArray, List.set_cons_zero, List.set_cons_succ]
  refine plan_exact rfl (fun K hK => quiet_runX (v := ?_) ?_ (hK _ ?_)); rotate_left; (go_simp <;> with_reducible rfl); clear hK K; simp only [Act.put, List.setIfInBounds_toArray, List.set_cons_zero, List.set_cons_succ]
  refine plan_pure rfl (fun K hK => quiet_run (v := ?_) (fun W _ => ?_) (hK _ ?_)); rotate_left; (go_simp <;> with_reducible rfl); clear hK K; simp only [Act.put, List.setIfInBounds_toArray, List.set_cons_zero, List.set_cons_succ]
  refine plan_pure rfl (fun K hK => quiet_move' _ rfl (hK _ ?_)); clear hK K; simp only [Act.put, Act.eval, Array.getD_eq_getD_getElem?, List.getElem?_toArray, List.getElem?_cons_zero, Option.getD_some, List.setIfInBounds_toArray, List.set_cons_zero, List.set_cons_succ]
  refine plan_pure rfl (fun K hK => quiet_run (v := ?_) (fun W _ => ?_) (hK _ ?_)); rotate_left; (go_simp <;> with_reducible rfl); clear hK K; simp only [Act.put, List.setIfInBounds_toArray, List.set_cons_zero, List.set_cons_succ]
  refine plan_pure rfl (fun K hK => quiet_run (v := ?_) (fun W _ => ?_) (hK _ ?_)); rotate_left; (go_simp <;> with_reducible rfl); clear hK K; simp only [Act.put, List.setIfInBounds_toArray, List.set_cons_zero, List.set_cons_succ]
  refine plan_exact rfl (fun K hK => quiet_runX (v := ?_) ?_ (hK _ ?_)); rotate_left; (go_simp <;> with_reducible rfl); clear hK K; simp only [Act.put, List.setIfInBounds_toArray, List.set_cons_zero, List.set_cons_succ]
  refine plan_pure rfl (fun K hK => quiet_move' _ rfl (hK _ ?_)); clear hK K; simp only [Act.put, Act.eval, Array.getD_eq_getD_getElem?, List.getElem?_toArray, List.getElem?_cons_zero, Option.getD_some, List.setIfInBounds_toArray, List.set_cons_zero, List.set_cons_succ]
  refine plan_pure rfl (fun K hK => quiet_run (v := ?_) (fun W _ => ?_) (hK _ ?_)); rotate_left; (go_simp <;> with_reducible rfl); clear hK K; simp only [Act.put, List.setIfInBounds_toArray, List.set_cons_zero, List.set_cons_succ]
  refine plan_pure rfl (fun K hK => quiet_run (v := ?_) (fun W _ => ?_) (hK _ ?_)); rotate_left; (go_simp <;> with_reducible rfl); clear hK K; simp only [Act.put, List.setIfInBounds_toArray, List.set_cons_zero, List.set_cons_succ]
  refine plan_pure rfl (fun K hK => quiet_run (v := ?_) (fun W _ => ?_) (hK _ ?_)); rotate_left; (go_simp <;> with_reducible rfl); clear hK K; simp only [Act.put, List.setIfInBounds_toArray, List.set_cons_zero, List.set_cons_succ]
  refine plan_load rfl (fun K hK => quiet_runE (v := ?_) (fun W => ?_) (hK _ ?_)); rotate_left; (go_simp <;> with_reducible rfl); clear hK K; simp only [Act.put, List.setIfInBounds_toArray, List.set_cons_zero, List.set_cons_succ]
  refine plan_pure rfl (fun K hK => quiet_run (v := ?_) (fun W _ => ?_) (hK _ ?_)); rotate_left; (go_simp <;> with_reducible rfl); clear hK K; simp only [Act.put, List.setIfInBounds_toArray, List.set_cons_zero, List.set_cons_succ]
  refine plan_does rfl (fun K hK => ?_)
  go_wp2_with fail
  refine (round_any (f + 1) m _ (by omega) (by omega) (by omega)).mono ?_
  rintro e W5 ⟨rfl, rfl⟩
  refine hK _ _ ⟨ClsE.of (by assumption), ?_⟩; clear hK K; try simp only [Act.put, List.setIfInBounds_toArray, List.set_cons_zero, List.set_cons_succ]
  refine plan_pure rfl (fun K hK => quiet_run (v := ?_) (fun W _ => ?_) (hK _ ?_)); rotate_left; (go_simp <;> with_reducible rfl); clear hK K; simp only [Act.put, List.setIfInBounds_toArray, List.set_cons_zero, List.set_cons_succ]
  refine plan_pure rfl (fun K hK => quiet_run (v := ?_) (fun W _ => ?_) (hK _ ?_)); rotate_left; (go_simp <;> with_reducible rfl); clear hK K; simp only [Act.put, List.setIfInBounds_toArray, List.set_cons_zero, List.set_cons_succ]
  refine plan_pure rfl (fun K hK => quiet_run (v := ?_) (fun W _ => ?_) (hK _ ?_)); rotate_left; (go_simp <;> with_reducible rfl); clear hK K; simp only [Act.put, List.setIfInBounds_toArray, List.set_cons_zero, List.set_cons_succ]
  refine plan_nil ?_; simp only [tailL, List.filterMap_cons, List.filterMap_nil, List.getElem?_toArray, List.getElem?_cons_succ, List.getElem?_cons_zero]; change wpList _ _ _ (_ :: _ :: _ :: _ :: _ :: []) _ _
  go_wp2_with fail
  have ht := HR3.out.taken hA HQ.out
  rw [HW4.out] at ht
  simp only [Int.natCast_emod, Int.natCast_add, Int.natCast_one] at ht
  have hAb : ∀ k, A k → ¬ OneB b k := fun k h1 h2 => hA (by unfold OneB at h2; rwa [← h2])
  have hAw : ∀ k, A k → ¬ OneB w.heap.size k := fun k h1 h2 => by have := hAl k h1; unfold OneB at h2; omega
  have hk2 : Keeps (OneB b) W3 (((W4.setCell ⟨b, 0, none⟩ (.int .i64 (((f : Int) + 1) % (m : Int)))).setCell ⟨b, 1, none⟩ (.int .i64 (r.length : Int)))) := (HK34.out.setOne _ _).setOne _ _
  generalize hW6 : (W4.setCell ⟨b, 0, none⟩ (.int .i64 (((f : Int) + 1) % (m : Int)))).setCell ⟨b, 1, none⟩ (.int .i64 (r.length : Int)) = W6 at ht hk2 ⊢
  have hk3 : Keeps (OneB w.heap.size) W6 ((((W6.setCell ⟨w.heap.size, 0, none⟩ (.bool x.side)).setCell ⟨w.heap.size, 1, none⟩ (.int .i64 x.key)).setCell ⟨w.heap.size, 2, none⟩ (.slice a x.bytes.length c)).drew) :=
    ((((Keeps.refl (OneB w.heap.size) W6).setOne _ _).setOne _ _).setOne _ _).drew
  have hkA : Keeps (OneB b) w ((((W6.setCell ⟨w.heap.size, 0, none⟩ (.bool x.side)).setCell ⟨w.heap.size, 1, none⟩ (.int .i64 x.key)).setCell ⟨w.heap.size, 2, none⟩ (.slice a x.bytes.length c)).drew) :=
    ((Ext.keeps HE3.out).trans hk2).then hk3 (fun i hi h => by unfold OneB at h; omega)
  generalize hW7 : ((((W6.setCell ⟨w.heap.size, 0, none⟩ (.bool x.side)).setCell ⟨w.heap.size, 1, none⟩ (.int .i64 x.key)).setCell ⟨w.heap.size, 2, none⟩ (.slice a x.bytes.length c)).drew) = W7 at hk3 hkA ⊢
  have c7 : ∀ o, W7.cell? ⟨w.heap.size, o, none⟩ = [Value.bool x.side, .int .i64 x.key, .slice a x.bytes.length c][o]? := by
    have q0 : Box W6 w.heap.size 31 [.bool false, .int .i64 0, .slice none 0 0] := by
      have := B0'.out.keeps hk2 (by unfold OneB; omega)
      exact this
    have q1 := (((q0.set 0 (.bool x.side)).set 1 (.int .i64 x.key)).set 2 (.slice a x.bytes.length c)).drew
    rw [hW7] at q1
    exact q1.reads.1
  refine bodyPost_ret (v := .tuple #[.agg #[.bool x.side, .int .i64 x.key, .slice a x.bytes.length c], .bool true]) (by simp [results, Try.results16, go_sem, c7]) rfl ⟨_, rfl, ⟨_, rfl, ?_⟩, ?_, hkA⟩
  · exact (HI3.out.keeps hk2 hAb).keeps hk3 hAw
  · exact ht.keeps hk3 (by unfold OneB; omega) hAw
end Go.Proofs.Ytocjnieehogcbaa
