/- The walk of the reference's Take. -/
import Derived.Test.YtdiogipdcpiffaaNRefC
set_option linter.unusedVariables false
set_option maxHeartbeats 400000
set_option maxRecDepth 10000
namespace Go.Proofs.Ytdiogipdcpiffaa
open Go.RowKit

theorem rpeek_no {A : Nat → Prop} (w : World) (v : Value) (N : NA) (f t p : Int) (h : RefV w A v N) (he64 : N.ends ≤ 64) (hl : N.l.length ≤ 4096) (hdl : N.downs.length ≤ 10000) (hA : ∀ k, A k → k < w.heap.size) (hpp : I64 p) (k : Nat) (hk : N.peekErr f t p = k) (h0 : k ≠ 0) :
    Calls Try.prog 48 #[v, .int .i64 f, .int .i64 t, .int .i64 p] w fun e w' => e = .returned (.tuple #[zeroP, .int .i64 (k : Int)]) ∧ Ext w w' := by
  unfold NA.peekErr at hk
  by_cases h1 : N.pickErr f t = 0
  · rw [if_pos h1] at hk
    by_cases h2 : ((N.got f t p).src, (N.got f t p).dst) ∈ N.downs
    · rw [if_pos h2] at hk
      subst hk
      exact rpeek_down w v N f t p h he64 hl hdl hA hpp h1 (decide_eq_true h2)
    · rw [if_neg h2] at hk
      exact absurd hk.symm h0
  · rw [if_neg h1] at hk
    exact rpeek_err w v N f t p h he64 hl hA k hk h0
theorem rpeek_yes {A : Nat → Prop} (w : World) (v : Value) (N : NA) (f t p : Int) (h : RefV w A v N) (he64 : N.ends ≤ 64) (hl : N.l.length ≤ 4096) (hdl : N.downs.length ≤ 10000) (hA : ∀ k, A k → k < w.heap.size) (hpp : I64 p) (hk : N.peekErr f t p = 0) :
    N.pickErr f t = 0 ∧ Calls Try.prog 48 #[v, .int .i64 f, .int .i64 t, .int .i64 p] w fun e w' => ∃ vx, e = .returned (.tuple #[vx, .int .i64 0]) ∧ ParV w' A vx (N.got f t p) ∧ Ext w w' := by
  unfold NA.peekErr at hk
  by_cases h1 : N.pickErr f t = 0
  · rw [if_pos h1] at hk
    refine ⟨h1, ?_⟩
    by_cases h2 : ((N.got f t p).src, (N.got f t p).dst) ∈ N.downs
    · rw [if_pos h2] at hk
      exact absurd hk (by decide)
    · exact rpeek_ok w v N f t p h he64 hl hdl hA hpp h1 (decide_eq_false h2)
  · rw [if_neg h1] at hk
    exact absurd hk h1
theorem ParV.form {w : World} {A : Nat → Prop} {v : Value} {x : Pc} (h : ParV w A v x) : ∃ a n, v = .agg #[.int .i64 (x.num : Int), .int .i64 x.src, .int .i64 x.dst, .slice a x.bytes.length n] ∧ Bytes w A (.slice a x.bytes.length n) x.bytes := by
  obtain ⟨bv, rfl, hb⟩ := h
  obtain ⟨a, n, rfl⟩ := hb.len
  exact ⟨a, n, rfl, hb⟩
set_option maxHeartbeats 4000000 in
theorem rtake_err {A : Nat → Prop} (w : World) (v : Value) (N : NA) (f t p : Int) (h : RefV w A v N) (he64 : N.ends ≤ 64) (hl : N.l.length ≤ 4096) (hdl : N.downs.length ≤ 10000) (hA : ∀ k, A k → k < w.heap.size) (hpp : I64 p) (k : Nat) (hk : N.peekErr f t p = k) (h0 : k ≠ 0) :
    Calls Try.prog 49 #[v, .int .i64 f, .int .i64 t, .int .i64 p] w fun e w' => e = .returned (.tuple #[v, zeroP, .int .i64 (k : Int)]) ∧ Ext w w' := by
  have hz : ((k : Int) != 0) = true := by rw [bne_iff_ne]; omega
  have HK := Lib.hid hk
  clear hk
  have HV := Lib.hid h
  have HA := Lib.hid hA
  obtain ⟨a, c, a', c', rfl, hp, hq⟩ := h.args
  have HP := Lib.hid hp
  have hllen := hl
  clear h hp hq hA
  go_enter Try.func49, Try.ntmps49
  go_wp2_with fail
  have bx0 := (((Box.new w 41 [.int .i64 (N.ends : Int), .int .i64 (N.most : Int), .int .i64 (N.came : Int), .slice a N.l.length c, .slice a' N.downs.length c']).alloc (Obj.cells #[.int .i64 0, .int .i64 0, .int .i64 0, .slice none 0 0, .slice none 0 0] 41)).alloc (Obj.cells #[.int .i64 0, .int .i64 0, .int .i64 0, .slice none 0 0] 50))
  have bx1 := ((Box.new (w.alloc (Obj.cells #[.int .i64 (N.ends : Int), .int .i64 (N.most : Int), .int .i64 (N.came : Int), .slice a N.l.length c, .slice a' N.downs.length c'] 41)) 41 [.int .i64 0, .int .i64 0, .int .i64 0, .slice none 0 0, .slice none 0 0]).alloc (Obj.cells #[.int .i64 0, .int .i64 0, .int .i64 0, .slice none 0 0] 50))
  have bx2 := (Box.new ((w.alloc (Obj.cells #[.int .i64 (N.ends : Int), .int .i64 (N.most : Int), .int .i64 (N.came : Int), .slice a N.l.length c, .slice a' N.downs.length c'] 41)).alloc (Obj.cells #[.int .i64 0, .int .i64 0, .int .i64 0, .slice none 0 0, .slice none 0 0] 41)) 50 [.int .i64 0, .int .i64 0, .int .i64 0, .slice none 0 0])
  have ex : Ext w (((w.alloc (Obj.cells #[.int .i64 (N.ends : Int), .int .i64 (N.most : Int), .int .i64 (N.came : Int), .slice a N.l.length c, .slice a' N.downs.length c'] 41)).alloc (Obj.cells #[.int .i64 0, .int .i64 0, .int .i64 0, .slice none 0 0, .slice none 0 0] 41)).alloc (Obj.cells #[.int .i64 0, .int .i64 0, .int .i64 0, .slice none 0 0] 50)) := ((((Keeps.refl NoB w).alloc _).alloc _).alloc _)
  have sx : (((w.alloc (Obj.cells #[.int .i64 (N.ends : Int), .int .i64 (N.most : Int), .int .i64 (N.came : Int), .slice a N.l.length c, .slice a' N.downs.length c'] 41)).alloc (Obj.cells #[.int .i64 0, .int .i64 0, .int .i64 0, .slice none 0 0, .slice none 0 0] 41)).alloc (Obj.cells #[.int .i64 0, .int .i64 0, .int .i64 0, .slice none 0 0] 50)).heap.size = w.heap.size + 3 := by simp
  simp only [World.size_alloc] at bx1 bx2
  generalize (((w.alloc (Obj.cells #[.int .i64 (N.ends : Int), .int .i64 (N.most : Int), .int .i64 (N.came : Int), .slice a N.l.length c, .slice a' N.downs.length c'] 41)).alloc (Obj.cells #[.int .i64 0, .int .i64 0, .int .i64 0, .slice none 0 0, .slice none 0 0] 41)).alloc (Obj.cells #[.int .i64 0, .int .i64 0, .int .i64 0, .slice none 0 0] 50)) = w0 at bx0 bx1 bx2 ex sx ⊢
  have Sx := Lib.hid sx
  clear sx
  have B0 := Lib.hid bx0
  have B1 := Lib.hid bx1
  have B2 := Lib.hid bx2
  have HE := Lib.hid ex
  have hs0 := bx2.lt
  clear ex bx0 bx1 bx2
  refine (rpeek_no w0 _ N f t p (HV.out.ext HE.out) he64 hl hdl (fun k hk => Nat.lt_of_lt_of_le (HA.out k hk) HE.out.size) hpp k HK.out h0).mono ?_
  rintro e w1 ⟨rfl, hE⟩
  have h01 := hE.size
  replace HE := Lib.hid (HE.out.ext hE)
  replace B0 := Lib.hid (B0.out.ext hE)
  replace B1 := Lib.hid (B1.out.ext hE)
  replace B2 := Lib.hid (B2.out.ext hE)
  clear hE
  obtain ⟨cB0, zB0⟩ := B0.out.reads
  have lB0 := B0.out.lt
  obtain ⟨cB1, zB1⟩ := B1.out.reads
  have lB1 := B1.out.lt
  obtain ⟨cB2, zB2⟩ := B2.out.reads
  have lB2 := B2.out.lt
  simp only [zeroP]
  go_wp2_with fail
  have by0 := (Box.new w1 50 [.int .i64 0, .int .i64 0, .int .i64 0, .slice none 0 0])
  have ey : Ext w1 (w1.alloc (Obj.cells #[.int .i64 0, .int .i64 0, .int .i64 0, .slice none 0 0] 50)) := ((Keeps.refl NoB w1).alloc _)
  have sy : (w1.alloc (Obj.cells #[.int .i64 0, .int .i64 0, .int .i64 0, .slice none 0 0] 50)).heap.size = w1.heap.size + 1 := by simp
  generalize (w1.alloc (Obj.cells #[.int .i64 0, .int .i64 0, .int .i64 0, .slice none 0 0] 50)) = w2 at by0 ey sy ⊢
  have Sy := Lib.hid sy
  clear sy
  have B3 := Lib.hid by0
  have HE2 := Lib.hid ey
  replace HE := Lib.hid (HE.out.ext ey)
  replace B0 := Lib.hid (B0.out.ext ey)
  replace B1 := Lib.hid (B1.out.ext ey)
  replace B2 := Lib.hid (B2.out.ext ey)
  have hng : ¬ (w1.heap.size = w.heap.size + 1) := by omega
  clear ey by0
  obtain ⟨cB0, zB0⟩ := B0.out.reads
  have lB0 := B0.out.lt
  obtain ⟨cB1, zB1⟩ := B1.out.reads
  have lB1 := B1.out.lt
  obtain ⟨cB2, zB2⟩ := B2.out.reads
  have lB2 := B2.out.lt
  obtain ⟨cB3, zB3⟩ := B3.out.reads
  have lB3 := B3.out.lt
  have hE0 : Keeps (OneB (w.heap.size + 1)) w2 w2.drew := (Keeps.refl _ _).drew
  refine wp_region_plan [(3, 0), (1, 1), (0, 2), (2, 3)] [1] [3, 4, 5] [4, 5] (ClsK (OneB (w.heap.size + 1)) w2) (by kernel_rfl) (by kernel_rfl) (by kernel_rfl) rfl rfl (ClsK.of hE0) (fun _ _ _ d _ h => by cases d <;> exact h) ?_; simp only [planL, List.getElem?_toArray, List.getElem?_cons_succ, List.getElem?_cons_zero]
  refine plan_exact rfl (fun K hK => quiet_runX (v := ?_) ?_ (hK _ ?_)); rotate_left; (go_simp <;> with_reducible rfl); clear hK K; simp only [Act.put, List.setIfInBounds_toArray, List.set_cons_zero, List.set_cons_succ]
  refine plan_load rfl (fun K hK => quiet_runK (v := ?_) (fun W => ?_) (hK _ ?_)); rotate_left; (go_simp <;> with_reducible rfl); clear hK K; simp only [Act.put, List.setIfInBounds_toArray, List.set_cons_zero, List.set_cons_succ]
  refine plan_pure rfl (fun K hK => quiet_move' _ rfl (hK _ ?_)); clear hK K; simp only [Act.put, Act.eval, Array.getD_eq_getD_getElem?, List.getElem?_toArray, List.getElem?_cons_zero, List.getElem?_cons_succ, Option.getD_some, List.setIfInBounds_toArray, List.set_cons_zero, List.set_cons_succ]
  refine plan_does rfl (fun K hK => ?_)
  go_wp2_with fail
  refine ⟨ClsK.of (by repeat (first | assumption | exact Keeps.refl _ _ | refine Keeps.alloc ?_ _ | refine Keeps.setOne ?_ _ _ | refine Keeps.setCell ?_ _ _ (.inl (by first | rfl | exact .inl rfl | exact .inr rfl | omega)) | refine Keeps.drew ?_)), ?_⟩; try simp only [Act.put]
  refine plan_nil ?_; simp only [tailL, List.filterMap_cons, List.filterMap_nil, List.getElem?_toArray, List.getElem?_cons_succ, List.getElem?_cons_zero]; change wpList _ _ _ (_ :: _ :: []) _ _
  go_wp2_with fail
  clear cB0 zB0 lB0 cB1 zB1 lB1 cB2 zB2 lB2 cB3 zB3 lB3
  have q1 := ((((((B1.out.set 0 (.int .i64 (NA.ends N : Int))).set 1 (.int .i64 (NA.most N : Int))).set 2 (.int .i64 (NA.came N : Int))).set 3 (.slice a N.l.length c))).set 4 (.slice a' N.downs.length c'))
  dsimp only [List.set_cons_zero, List.set_cons_succ] at q1
  have hk : Keeps (OneB (w.heap.size + 1)) w2 (((((w2.setCell ⟨(w.heap.size + 1), 0, none⟩ (.int .i64 (NA.ends N : Int))).setCell ⟨(w.heap.size + 1), 1, none⟩ (.int .i64 (NA.most N : Int))).setCell ⟨(w.heap.size + 1), 2, none⟩ (.int .i64 (NA.came N : Int))).setCell ⟨(w.heap.size + 1), 3, none⟩ (.slice a N.l.length c)).setCell ⟨(w.heap.size + 1), 4, none⟩ (.slice a' N.downs.length c')) :=
    (((((Keeps.refl _ _).setOne _ _).setOne _ _).setOne _ _).setOne _ _).setOne _ _
  have q2 := q1.reads.1
  generalize (((((w2.setCell ⟨(w.heap.size + 1), 0, none⟩ (.int .i64 (NA.ends N : Int))).setCell ⟨(w.heap.size + 1), 1, none⟩ (.int .i64 (NA.most N : Int))).setCell ⟨(w.heap.size + 1), 2, none⟩ (.int .i64 (NA.came N : Int))).setCell ⟨(w.heap.size + 1), 3, none⟩ (.slice a N.l.length c)).setCell ⟨(w.heap.size + 1), 4, none⟩ (.slice a' N.downs.length c')) = w3 at q1 q2 hk ⊢
  have hks := hk.size
  have hk3 := hk
  have HB1 := Lib.hid q1
  have HB2 := Lib.hid (B2.out.keeps hk (by unfold OneB; omega))
  clear q1 q2 hk
  have hks3 := hks
  have q1 := ((((HB2.out.set 0 (.int .i64 0)).set 1 (.int .i64 0)).set 2 (.int .i64 0)).set 3 (.slice none 0 0))
  dsimp only [List.set_cons_zero, List.set_cons_succ] at q1
  have hk : Keeps (OneB (w.heap.size + 1 + 1)) w3 ((((w3.setCell ⟨(w.heap.size + 1 + 1), 0, none⟩ (.int .i64 0)).setCell ⟨(w.heap.size + 1 + 1), 1, none⟩ (.int .i64 0)).setCell ⟨(w.heap.size + 1 + 1), 2, none⟩ (.int .i64 0)).setCell ⟨(w.heap.size + 1 + 1), 3, none⟩ (.slice none 0 0)) :=
    ((((Keeps.refl _ _).setOne _ _).setOne _ _).setOne _ _).setOne _ _
  have q2 := q1.reads.1
  generalize ((((w3.setCell ⟨(w.heap.size + 1 + 1), 0, none⟩ (.int .i64 0)).setCell ⟨(w.heap.size + 1 + 1), 1, none⟩ (.int .i64 0)).setCell ⟨(w.heap.size + 1 + 1), 2, none⟩ (.int .i64 0)).setCell ⟨(w.heap.size + 1 + 1), 3, none⟩ (.slice none 0 0)) = w4 at q1 q2 hk ⊢
  have hks := hk.size
  have q3 := (HB1.out.keeps hk (by unfold OneB; omega)).reads.1
  refine bodyPost_ret (v := .tuple #[.agg #[.int .i64 (N.ends : Int), .int .i64 (N.most : Int), .int .i64 (N.came : Int), .slice a N.l.length c, .slice a' N.downs.length c'], zeroP, .int .i64 (k : Int)]) (by simp [results, Try.results49, go_sem, q2, q3, zeroP]) rfl ⟨rfl, ?_⟩
  have hfin : Ext w w4 := (HE.out.then hk3 (fun i hi h => by unfold OneB at h; omega)).then hk (fun i hi h => by unfold OneB at h; omega)
  exact hfin.drew
set_option maxHeartbeats 4000000 in
theorem rtake_ok {A : Nat → Prop} (w : World) (v : Value) (N : NA) (f t p : Int) (h : RefV w A v N) (he64 : N.ends ≤ 64) (hl : N.l.length ≤ 4096) (hdl : N.downs.length ≤ 10000) (hA : ∀ k, A k → k < w.heap.size) (hpp : I64 p) (hk : N.peekErr f t p = 0) :
    Calls Try.prog 49 #[v, .int .i64 f, .int .i64 t, .int .i64 p] w fun e w' => ∃ v' vx, e = .returned (.tuple #[v', vx, .int .i64 0]) ∧ RefV w' (Gr A w w') v' (N.without (N.iOf f t p)) ∧ ParV w' A vx (N.got f t p) ∧ Ext w w' := by
  have hke := (rpeek_yes w v N f t p h he64 hl hdl hA hpp hk).1
  have HPK := Lib.hid hk
  have HK := Lib.hid hke
  obtain ⟨hil, -⟩ := List.getElem?_eq_some_iff.1 (NA.got_at (p := p) hke)
  clear hk hke
  have HV := Lib.hid h
  have HA := Lib.hid hA
  obtain ⟨a, c, a', c', rfl, hp, hq⟩ := h.args
  have HP := Lib.hid hp
  have hllen := hl
  clear h hp hq hA
  obtain ⟨x, hx⟩ : ∃ x, N.got f t p = x := ⟨_, rfl⟩
  rw [hx]
  obtain ⟨i, hi⟩ : ∃ i, N.iOf f t p = i := ⟨_, rfl⟩
  rw [hi] at hil ⊢
  have HI := Lib.hid hi
  have HX := Lib.hid hx
  clear hx hi
  go_enter Try.func49, Try.ntmps49
  go_wp2_with fail
  have bx0 := (((Box.new w 41 [.int .i64 (N.ends : Int), .int .i64 (N.most : Int), .int .i64 (N.came : Int), .slice a N.l.length c, .slice a' N.downs.length c']).alloc (Obj.cells #[.int .i64 0, .int .i64 0, .int .i64 0, .slice none 0 0, .slice none 0 0] 41)).alloc (Obj.cells #[.int .i64 0, .int .i64 0, .int .i64 0, .slice none 0 0] 50))
  have bx1 := ((Box.new (w.alloc (Obj.cells #[.int .i64 (N.ends : Int), .int .i64 (N.most : Int), .int .i64 (N.came : Int), .slice a N.l.length c, .slice a' N.downs.length c'] 41)) 41 [.int .i64 0, .int .i64 0, .int .i64 0, .slice none 0 0, .slice none 0 0]).alloc (Obj.cells #[.int .i64 0, .int .i64 0, .int .i64 0, .slice none 0 0] 50))
  have bx2 := (Box.new ((w.alloc (Obj.cells #[.int .i64 (N.ends : Int), .int .i64 (N.most : Int), .int .i64 (N.came : Int), .slice a N.l.length c, .slice a' N.downs.length c'] 41)).alloc (Obj.cells #[.int .i64 0, .int .i64 0, .int .i64 0, .slice none 0 0, .slice none 0 0] 41)) 50 [.int .i64 0, .int .i64 0, .int .i64 0, .slice none 0 0])
  have ex : Ext w (((w.alloc (Obj.cells #[.int .i64 (N.ends : Int), .int .i64 (N.most : Int), .int .i64 (N.came : Int), .slice a N.l.length c, .slice a' N.downs.length c'] 41)).alloc (Obj.cells #[.int .i64 0, .int .i64 0, .int .i64 0, .slice none 0 0, .slice none 0 0] 41)).alloc (Obj.cells #[.int .i64 0, .int .i64 0, .int .i64 0, .slice none 0 0] 50)) := ((((Keeps.refl NoB w).alloc _).alloc _).alloc _)
  have sx : (((w.alloc (Obj.cells #[.int .i64 (N.ends : Int), .int .i64 (N.most : Int), .int .i64 (N.came : Int), .slice a N.l.length c, .slice a' N.downs.length c'] 41)).alloc (Obj.cells #[.int .i64 0, .int .i64 0, .int .i64 0, .slice none 0 0, .slice none 0 0] 41)).alloc (Obj.cells #[.int .i64 0, .int .i64 0, .int .i64 0, .slice none 0 0] 50)).heap.size = w.heap.size + 3 := by simp
  simp only [World.size_alloc] at bx1 bx2
  generalize (((w.alloc (Obj.cells #[.int .i64 (N.ends : Int), .int .i64 (N.most : Int), .int .i64 (N.came : Int), .slice a N.l.length c, .slice a' N.downs.length c'] 41)).alloc (Obj.cells #[.int .i64 0, .int .i64 0, .int .i64 0, .slice none 0 0, .slice none 0 0] 41)).alloc (Obj.cells #[.int .i64 0, .int .i64 0, .int .i64 0, .slice none 0 0] 50)) = w0 at bx0 bx1 bx2 ex sx ⊢
  have Sx := Lib.hid sx
  clear sx
  have B0 := Lib.hid bx0
  have B1 := Lib.hid bx1
  have B2 := Lib.hid bx2
  have HE := Lib.hid ex
  have hs0 := bx2.lt
  clear ex bx0 bx1 bx2
  refine (rpeek_yes w0 _ N f t p (HV.out.ext HE.out) he64 hl hdl (fun k hk => Nat.lt_of_lt_of_le (HA.out k hk) HE.out.size) hpp HPK.out).2.mono ?_
  rintro e w1 ⟨vx, rfl, hvx, hE⟩
  obtain ⟨a3, n3, rfl, hb3⟩ := hvx.form
  rw [HX.out] at hb3 ⊢
  have HB3 := Lib.hid hb3
  have h01 := hE.size
  replace HE := Lib.hid (HE.out.ext hE)
  replace B0 := Lib.hid (B0.out.ext hE)
  replace B1 := Lib.hid (B1.out.ext hE)
  replace B2 := Lib.hid (B2.out.ext hE)
  clear hE hvx hb3
  obtain ⟨cB0, zB0⟩ := B0.out.reads
  have lB0 := B0.out.lt
  obtain ⟨cB1, zB1⟩ := B1.out.reads
  have lB1 := B1.out.lt
  obtain ⟨cB2, zB2⟩ := B2.out.reads
  have lB2 := B2.out.lt
  go_wp2_with fail
  have by0 := (Box.new w1 50 [.int .i64 (x.num : Int), .int .i64 x.src, .int .i64 x.dst, .slice a3 x.bytes.length n3])
  have ey : Ext w1 (w1.alloc (Obj.cells #[.int .i64 (x.num : Int), .int .i64 x.src, .int .i64 x.dst, .slice a3 x.bytes.length n3] 50)) := ((Keeps.refl NoB w1).alloc _)
  have sy : (w1.alloc (Obj.cells #[.int .i64 (x.num : Int), .int .i64 x.src, .int .i64 x.dst, .slice a3 x.bytes.length n3] 50)).heap.size = w1.heap.size + 1 := by simp
  generalize (w1.alloc (Obj.cells #[.int .i64 (x.num : Int), .int .i64 x.src, .int .i64 x.dst, .slice a3 x.bytes.length n3] 50)) = w2 at by0 ey sy ⊢
  have Sy := Lib.hid sy
  clear sy
  have B3 := Lib.hid by0
  have hng : ¬ (w1.heap.size = w.heap.size + 1) := by omega
  have h12 := ey.size
  replace HE := Lib.hid (HE.out.ext ey)
  replace B0 := Lib.hid (B0.out.ext ey)
  replace B1 := Lib.hid (B1.out.ext ey)
  replace B2 := Lib.hid (B2.out.ext ey)
  replace HB3 := Lib.hid (HB3.out.ext ey)
  have hs2 := by0.lt
  clear ey by0
  refine (rpick_ok w2 _ N f t p (HV.out.ext HE.out) he64 hl (fun k hk => Nat.lt_of_lt_of_le (HA.out k hk) HE.out.size) hpp HK.out).mono ?_
  rintro e w3 ⟨rfl, hE⟩
  rw [HI.out]
  have h23 := hE.size
  replace HE := Lib.hid (HE.out.ext hE)
  replace B0 := Lib.hid (B0.out.ext hE)
  replace B1 := Lib.hid (B1.out.ext hE)
  replace B2 := Lib.hid (B2.out.ext hE)
  replace B3 := Lib.hid (B3.out.ext hE)
  replace HB3 := Lib.hid (HB3.out.ext hE)
  clear hE
  obtain ⟨cB0, zB0⟩ := B0.out.reads
  have lB0 := B0.out.lt
  obtain ⟨cB1, zB1⟩ := B1.out.reads
  have lB1 := B1.out.lt
  obtain ⟨cB2, zB2⟩ := B2.out.reads
  have lB2 := B2.out.lt
  obtain ⟨cB3, zB3⟩ := B3.out.reads
  have lB3 := B3.out.lt
  go_wp2_with fail
  have hE0 : Keeps (OneB (w.heap.size + 1)) w3 w3.drew := (Keeps.refl _ _).drew
  refine wp_region_plan [(3, 0), (0, 1), (1, 3), (2, 2), (2, 4)] [3] [2, 4, 5, 6] [5, 6] (ClsK (OneB (w.heap.size + 1)) w3) (by kernel_rfl) (by kernel_rfl) (by kernel_rfl) rfl rfl (ClsK.of hE0) (fun _ _ _ d _ h => by cases d <;> exact h) ?_; simp only [planL, List.getElem?_toArray, List.getElem?_cons_succ, List.getElem?_cons_zero]
  refine plan_exact rfl (fun K hK => quiet_runX (v := ?_) ?_ (hK _ ?_)); rotate_left; (go_simp <;> with_reducible rfl); clear hK K; simp only [Act.put, List.setIfInBounds_toArray, List.set_cons_zero, List.set_cons_succ]
  refine plan_pure rfl (fun K hK => quiet_move' _ rfl (hK _ ?_)); clear hK K; simp only [Act.put, Act.eval, Array.getD_eq_getD_getElem?, List.getElem?_toArray, List.getElem?_cons_zero, List.getElem?_cons_succ, Option.getD_some, List.setIfInBounds_toArray, List.set_cons_zero, List.set_cons_succ]
  refine plan_load rfl (fun K hK => quiet_runK (v := ?_) (fun W => ?_) (hK _ ?_)); rotate_left; (go_simp <;> with_reducible rfl); clear hK K; simp only [Act.put, List.setIfInBounds_toArray, List.set_cons_zero, List.set_cons_succ]
  refine plan_does rfl (fun K hK => ?_)
  go_wp2_with fail
  have hd1 : Ext w3 w3.drew := (Keeps.refl NoB w3).drew
  refine (rwithout_any _ _ N i (HV.out.ext (HE.out.ext hd1)) hl (fun k hk => by have := HA.out k hk; have := (HE.out.ext hd1).size; omega) hil).mono ?_
  rintro e w4 ⟨v', rfl, hv', hE2⟩
  have hE02 : Ext w3 w4 := hd1.ext hE2
  have hK02 : Keeps (OneB (w.heap.size + 1)) w3 w4 := Ext.keeps hE02
  obtain ⟨a5, c5, a6, c6, rfl, hp5, hp6⟩ := hv'.args
  have HV' := Lib.hid hv'
  have HB12 := B1.out.ext hE02
  obtain ⟨cB12, zB12⟩ := HB12.reads
  have lB12 := HB12.lt
  have HB22 := B2.out.ext hE02
  obtain ⟨cB22, zB22⟩ := HB22.reads
  have lB22 := HB22.lt
  have HB32 := B3.out.ext hE02
  obtain ⟨cB32, zB32⟩ := HB32.reads
  clear hp5 hp6 hv' HB12 HB22 HB32
  refine hK _ _ ⟨ClsK.of (by assumption), ?_⟩; clear hK K; try simp only [Act.put, List.setIfInBounds_toArray, List.set_cons_zero, List.set_cons_succ]
  refine plan_does rfl (fun K hK => ?_)
  go_wp2_with fail
  refine ⟨ClsK.of (by repeat (first | assumption | exact Keeps.refl _ _ | refine Keeps.alloc ?_ _ | refine Keeps.setOne ?_ _ _ | refine Keeps.setCell ?_ _ _ (.inl (by first | rfl | exact .inl rfl | exact .inr rfl | omega)) | refine Keeps.drew ?_)), ?_⟩; try simp only [Act.put]
  refine plan_nil ?_; simp only [tailL, List.filterMap_cons, List.filterMap_nil, List.getElem?_toArray, List.getElem?_cons_succ, List.getElem?_cons_zero]; change wpList _ _ _ (_ :: _ :: []) _ _
  go_wp2_with fail
  have HB2 := Lib.hid (B2.out.ext hE02)
  have HB1 := Lib.hid (B1.out.ext hE02)
  clear cB0 zB0 lB0 cB1 zB1 lB1 cB2 zB2 lB2 cB3 zB3 lB3
  clear cB12 zB12 cB22 zB22 cB32 zB32
  have q1 := ((((((HB1.out.set 0 (.int .i64 (NA.ends (N.without i) : Int))).set 1 (.int .i64 (NA.most (N.without i) : Int))).set 2 (.int .i64 (NA.came (N.without i) : Int))).set 3 (.slice a5 (N.without i).l.length c5))).set 4 (.slice a6 (N.without i).downs.length c6))
  dsimp only [List.set_cons_zero, List.set_cons_succ] at q1
  have hk : Keeps (OneB (w.heap.size + 1)) w4 (((((w4.setCell ⟨(w.heap.size + 1), 0, none⟩ (.int .i64 (NA.ends (N.without i) : Int))).setCell ⟨(w.heap.size + 1), 1, none⟩ (.int .i64 (NA.most (N.without i) : Int))).setCell ⟨(w.heap.size + 1), 2, none⟩ (.int .i64 (NA.came (N.without i) : Int))).setCell ⟨(w.heap.size + 1), 3, none⟩ (.slice a5 (N.without i).l.length c5)).setCell ⟨(w.heap.size + 1), 4, none⟩ (.slice a6 (N.without i).downs.length c6)) :=
    (((((Keeps.refl _ _).setOne _ _).setOne _ _).setOne _ _).setOne _ _).setOne _ _
  have q2 := q1.reads.1
  generalize (((((w4.setCell ⟨(w.heap.size + 1), 0, none⟩ (.int .i64 (NA.ends (N.without i) : Int))).setCell ⟨(w.heap.size + 1), 1, none⟩ (.int .i64 (NA.most (N.without i) : Int))).setCell ⟨(w.heap.size + 1), 2, none⟩ (.int .i64 (NA.came (N.without i) : Int))).setCell ⟨(w.heap.size + 1), 3, none⟩ (.slice a5 (N.without i).l.length c5)).setCell ⟨(w.heap.size + 1), 4, none⟩ (.slice a6 (N.without i).downs.length c6)) = w5 at q1 q2 hk ⊢
  have hks := hk.size
  have hk5 := hk
  have HB15 := Lib.hid q1
  have HB25 := Lib.hid (HB2.out.keeps hk (by unfold OneB; omega))
  clear q1 q2 hk
  have hks5 := hks
  have q1 := ((((HB25.out.set 0 (.int .i64 (x.num : Int))).set 1 (.int .i64 x.src)).set 2 (.int .i64 x.dst)).set 3 (.slice a3 x.bytes.length n3))
  dsimp only [List.set_cons_zero, List.set_cons_succ] at q1
  have hk : Keeps (OneB (w.heap.size + 1 + 1)) w5 ((((w5.setCell ⟨(w.heap.size + 1 + 1), 0, none⟩ (.int .i64 (x.num : Int))).setCell ⟨(w.heap.size + 1 + 1), 1, none⟩ (.int .i64 x.src)).setCell ⟨(w.heap.size + 1 + 1), 2, none⟩ (.int .i64 x.dst)).setCell ⟨(w.heap.size + 1 + 1), 3, none⟩ (.slice a3 x.bytes.length n3)) :=
    ((((Keeps.refl _ _).setOne _ _).setOne _ _).setOne _ _).setOne _ _
  have q2 := q1.reads.1
  generalize ((((w5.setCell ⟨(w.heap.size + 1 + 1), 0, none⟩ (.int .i64 (x.num : Int))).setCell ⟨(w.heap.size + 1 + 1), 1, none⟩ (.int .i64 x.src)).setCell ⟨(w.heap.size + 1 + 1), 2, none⟩ (.int .i64 x.dst)).setCell ⟨(w.heap.size + 1 + 1), 3, none⟩ (.slice a3 x.bytes.length n3)) = w6 at q1 q2 hk ⊢
  have hks := hk.size
  have q3 := (HB15.out.keeps hk (by unfold OneB; omega)).reads.1
  have hEe := HE.out.size
  have hE2s := hE02.size
  have HAX := HA.out
  refine bodyPost_ret (v := .tuple #[.agg #[.int .i64 ((N.without i).ends : Int), .int .i64 ((N.without i).most : Int), .int .i64 ((N.without i).came : Int), .slice a5 (N.without i).l.length c5, .slice a6 (N.without i).downs.length c6], .agg #[.int .i64 (x.num : Int), .int .i64 x.src, .int .i64 x.dst, .slice a3 x.bytes.length n3], .int .i64 0]) (by simp [results, Try.results49, go_sem, q2, q3]) rfl ⟨_, _, rfl, ?_, ⟨_, rfl, ?_⟩, ?_⟩
  · have hg : ∀ k, Gr A w3.drew w4 k → k < w.heap.size ∨ w3.heap.size ≤ k := fun k hk' => by
      rcases hk' with h9 | h9
      · exact .inl (HAX k h9)
      · exact .inr h9.1
    refine ((HV'.out.keeps hk5 (fun k hk' h => ?_)).keeps hk (fun k hk' h => ?_)).mono (fun k hk' => ?_)
    · unfold OneB at h; have := hg k hk'; omega
    · unfold OneB at h; have := hg k hk'; omega
    · rcases hk' with h9 | h9
      · exact .inl h9
      · have h8 : w3.heap.size ≤ k := h9.1; have h7 := h9.2; exact .inr ⟨by omega, by omega⟩
  · exact ((HB3.out.ext hE02).keeps hk5 (fun k hk' h => by unfold OneB at h; have := HAX k hk'; omega)).keeps hk (fun k hk' h => by unfold OneB at h; have := HAX k hk'; omega)
  · exact ((HE.out.ext hE02).then hk5 (fun i hi h => by unfold OneB at h; omega)).then hk (fun i hi h => by unfold OneB at h; omega)
end Go.Proofs.Ytdiogipdcpiffaa
