/- The net's own functions, each by its contract: Peek and Take. Conditions: the net lies as 'NetX' says. -/
import Derived.Test.YtdiogipdcpiffaaNetI
set_option linter.unusedVariables false
set_option maxHeartbeats 400000
set_option maxRecDepth 10000
namespace Go.Proofs.Ytdiogipdcpiffaa
open Go.RowKit

def zeroP : Value := .agg #[.int .i64 0, .int .i64 0, .int .i64 0, .slice none 0 0]
theorem peek_err {F M : Nat → Prop} (w : World) (b : Nat) (N : NA) (f t p : Int) (h : NetX w F M b N) (k : Nat) (hk : N.pickErr f t = k) (h0 : k ≠ 0) :
    Calls Try.prog 30 #[.pointer (some ⟨b, 0, none⟩), .int .i64 f, .int .i64 t, .int .i64 p] w fun e w' => e = .returned (.tuple #[zeroP, .int .i64 (k : Int)]) ∧ Ext w w' := by
  have hz : ((k : Int) != 0) = true := by rw [bne_iff_ne]; omega
  have HN := Lib.hid h
  have HK := Lib.hid hk
  clear h hk
  go_enter Try.func30, Try.ntmps30
  go_wp2_with fail
  have bx0 := (Box.new w 50 [.int .i64 0, .int .i64 0, .int .i64 0, .slice none 0 0])
  have ex : Ext w (w.alloc (Obj.cells #[.int .i64 0, .int .i64 0, .int .i64 0, .slice none 0 0] 50)) := ((Keeps.refl NoB w).alloc _)
  have sx : (w.alloc (Obj.cells #[.int .i64 0, .int .i64 0, .int .i64 0, .slice none 0 0] 50)).heap.size = w.heap.size + 1 := by simp
  generalize (w.alloc (Obj.cells #[.int .i64 0, .int .i64 0, .int .i64 0, .slice none 0 0] 50)) = w0 at bx0 ex sx ⊢
  have Sx := Lib.hid sx
  clear sx
  refine (pick_err w0 b N f t p (HN.out.ext ex) k HK.out h0).mono ?_
  rintro e w1 ⟨rfl, hE⟩
  have HE := Lib.hid (ex.ext hE)
  have B0 := Lib.hid (bx0.ext hE)
  clear hE ex bx0
  obtain ⟨cB0, zB0⟩ := B0.out.reads
  have lB0 := B0.out.lt
  go_wp2_with fail
  have hs := Sx.out
  have q := (((B0.out.set 0 (.int .i64 0)).set 1 (.int .i64 0)).set 2 (.int .i64 0)).set 3 (.slice none 0 0)
  dsimp only [List.set_cons_zero, List.set_cons_succ] at q
  have q1 := q.reads.1
  clear cB0 zB0 lB0
  refine bodyPost_ret (v := .tuple #[zeroP, .int .i64 (k : Int)]) (by simp [results, Try.results30, go_sem, q1, zeroP]) rfl ⟨rfl, ?_⟩
  exact HE.out.then ((((((Keeps.refl (OneB w.heap.size) w1).setOne 0 _).setOne 1 _).setOne 2 _).setOne 3 _)) (fun i hi h => by unfold OneB at h; omega)
set_option maxHeartbeats 1000000 in
theorem peek_down {F M : Nat → Prop} (w : World) (b : Nat) (N : NA) (f t p : Int) (h : NetX w F M b N) (hp : I64 p) (hk : N.pickErr f t = 0) (i : Nat) (x : Pc) (hi : pickOf p (N.on f t) = i) (hx : N.l[i]? = some x) (hdn : (x.src, x.dst) ∈ N.downs) :
    Calls Try.prog 30 #[.pointer (some ⟨b, 0, none⟩), .int .i64 f, .int .i64 t, .int .i64 p] w fun e w' => e = .returned (.tuple #[zeroP, .int .i64 210]) ∧ Ext w w' := by
  have hdd : decide ((x.src, x.dst) ∈ N.downs) = true := decide_eq_true hdn
  have HDD := Lib.hid hdd
  clear hdn hdd
  obtain ⟨hl, ho⟩ := NA.pick_zero hk
  have HN := Lib.hid h
  have HI := Lib.hid hi
  have hmo := h.m1
  have hll := h.ll
  have hil : i < N.l.length := (List.getElem?_eq_some_iff.1 hx).1
  have hxi : N.l[i] = x := by rw [List.getElem?_eq_getElem hil] at hx; injection hx
  have hok := h.ok x (hxi ▸ List.getElem_mem hil)
  have he1 := h.e1
  have HL := Lib.hid hl
  have HO := Lib.hid ho
  have HXI := Lib.hid hxi
  clear h hk hl ho hi hx hxi
  go_enter Try.func30, Try.ntmps30
  go_wp2_with fail
  have bz0 := (Box.new w 50 [.int .i64 0, .int .i64 0, .int .i64 0, .slice none 0 0])
  have ez : Ext w (w.alloc (Obj.cells #[.int .i64 0, .int .i64 0, .int .i64 0, .slice none 0 0] 50)) := ((Keeps.refl NoB w).alloc _)
  have sz : (w.alloc (Obj.cells #[.int .i64 0, .int .i64 0, .int .i64 0, .slice none 0 0] 50)).heap.size = w.heap.size + 1 := by simp
  generalize (w.alloc (Obj.cells #[.int .i64 0, .int .i64 0, .int .i64 0, .slice none 0 0] 50)) = w0 at bz0 ez sz ⊢
  have Sz := Lib.hid sz
  clear sz
  refine (pick_some w0 b N f t p (HN.out.ext ez) HL.out hp HO.out).mono ?_
  rintro e w1 ⟨rfl, hE⟩
  rw [HI.out]
  have HE := Lib.hid (ez.ext hE)
  have B0 := Lib.hid (bz0.ext hE)
  have h01 := hE.size
  have hz1 := (bz0.ext hE).lt
  clear hE ez bz0
  obtain ⟨A, m, a, c, hb, hv, hs, hA⟩ := (HN.out.ext HE.out).see
  obtain ⟨-, hat⟩ := hv.at
  obtain ⟨g, o, rfl, hc, hAg, hpar⟩ := hat i hil
  rw [HXI.out] at hpar
  obtain ⟨i0, i1, i2, a3, n3, i3, i4⟩ := hpar.reads
  have HB := Lib.hid hb
  have HI4 := Lib.hid i4
  have hgl := hA g hAg
  have HDN := Lib.hid hs
  clear hb hv hs hA hat hpar i4
  obtain ⟨cHB, zHB⟩ := HB.out.reads
  have lHB := HB.out.lt
  go_wp2_with fail
  have by0 := (Box.new w1 81 [.int .i64 (x.num : Int), .int .i64 x.src, .int .i64 x.dst, .slice a3 x.bytes.length n3])
  have ey : Ext w1 (w1.alloc (Obj.cells #[.int .i64 (x.num : Int), .int .i64 x.src, .int .i64 x.dst, .slice a3 x.bytes.length n3] 81)) := ((Keeps.refl NoB w1).alloc _)
  have sy : (w1.alloc (Obj.cells #[.int .i64 (x.num : Int), .int .i64 x.src, .int .i64 x.dst, .slice a3 x.bytes.length n3] 81)).heap.size = w1.heap.size + 1 := by simp
  generalize (w1.alloc (Obj.cells #[.int .i64 (x.num : Int), .int .i64 x.src, .int .i64 x.dst, .slice a3 x.bytes.length n3] 81)) = w2 at by0 ey sy ⊢
  have Sy := Lib.hid sy
  clear sy
  have BY := Lib.hid by0
  have h12 := ey.size
  clear cHB zHB lHB
  replace HE := Lib.hid (HE.out.ext ey)
  replace B0 := Lib.hid (B0.out.ext ey)
  replace HB := Lib.hid (HB.out.ext ey)
  replace HI4 := Lib.hid (HI4.out.ext ey)
  replace HDN := Lib.hid (HDN.out.ext ey)
  clear ey by0 i0 i1 i2 i3
  have hd := fun (W : World) (hW : Ext w2 W) => run_isdown (HDN.out.ext hW) (show I64 x.src by unfold I64; omega) (show I64 x.dst by unfold I64; omega) _ rfl
  rw [HDD.out] at hd
  obtain ⟨cHB, zHB⟩ := HB.out.reads
  have lHB := HB.out.lt
  obtain ⟨cBY, zBY⟩ := BY.out.reads
  have lBY := BY.out.lt
  have hE0 : Keeps NoB w2 w2.drew := (Keeps.refl _ _).drew
  refine wp_region_plan [(0, 0), (0, 1), (0, 2), (3, 3), (0, 4), (0, 5), (3, 6), (0, 7), (0, 8), (3, 9), (0, 10), (3, 11)] [] [] [] (ClsE w2) (by kernel_rfl) (by kernel_rfl) (by kernel_rfl) rfl rfl (ClsE.of hE0) (fun _ _ _ d _ h => by cases d <;> exact h) ?_; simp only [planL, List.getElem?_toArray, List.getElem?_cons_succ, List.getElem?_cons_zero]
  refine plan_pure rfl (fun K hK => quiet_move' _ rfl (hK _ ?_)); clear hK K; simp only [Act.put, Act.eval, Array.getD_eq_getD_getElem?, List.getElem?_toArray, List.getElem?_cons_zero, Option.getD_some, List.setIfInBounds_toArray, List.set_cons_zero, List.set_cons_succ]
  refine plan_pure rfl (fun K hK => quiet_run (v := ?_) (fun W _ => ?_) (hK _ ?_)); rotate_left; (go_simp <;> with_reducible rfl); clear hK K; simp only [Act.put, List.setIfInBounds_toArray, List.set_cons_zero, List.set_cons_succ]
  refine plan_pure rfl (fun K hK => quiet_run (v := ?_) (fun W _ => ?_) (hK _ ?_)); rotate_left; (go_simp <;> with_reducible rfl); clear hK K; simp only [Act.put, List.setIfInBounds_toArray, List.set_cons_zero, List.set_cons_succ]
  refine plan_exact rfl (fun K hK => quiet_runX (v := ?_) ?_ (hK _ ?_)); rotate_left; (go_simp <;> with_reducible rfl); clear hK K; simp only [Act.put, List.setIfInBounds_toArray, List.set_cons_zero, List.set_cons_succ]
  refine plan_pure rfl (fun K hK => quiet_run (v := ?_) (fun W _ => ?_) (hK _ ?_)); rotate_left; (go_simp <;> with_reducible rfl); clear hK K; simp only [Act.put, List.setIfInBounds_toArray, List.set_cons_zero, List.set_cons_succ]
  refine plan_pure rfl (fun K hK => quiet_run (v := ?_) (fun W _ => ?_) (hK _ ?_)); rotate_left; (go_simp <;> with_reducible rfl); clear hK K; simp only [Act.put, List.setIfInBounds_toArray, List.set_cons_zero, List.set_cons_succ]
  refine plan_exact rfl (fun K hK => quiet_runX (v := ?_) ?_ (hK _ ?_)); rotate_left; (go_simp <;> with_reducible rfl); clear hK K; simp only [Act.put, List.setIfInBounds_toArray, List.set_cons_zero, List.set_cons_succ]
  refine plan_pure rfl (fun K hK => quiet_run (v := ?_) (fun W _ => ?_) (hK _ ?_)); rotate_left; (go_simp <;> with_reducible rfl); clear hK K; simp only [Act.put, List.setIfInBounds_toArray, List.set_cons_zero, List.set_cons_succ]
  refine plan_pure rfl (fun K hK => quiet_run (v := ?_) (fun W _ => ?_) (hK _ ?_)); rotate_left; (go_simp <;> with_reducible rfl); clear hK K; simp only [Act.put, List.setIfInBounds_toArray, List.set_cons_zero, List.set_cons_succ]
  refine plan_exact rfl (fun K hK => quiet_runX (v := ?_) ?_ (hK _ ?_)); rotate_left; (go_simp <;> with_reducible rfl); clear hK K; simp only [Act.put, List.setIfInBounds_toArray, List.set_cons_zero, List.set_cons_succ]
  refine plan_pure rfl (fun K hK => quiet_run (v := ?_) (fun W _ => ?_) (hK _ ?_)); rotate_left; (go_simp <;> with_reducible rfl); clear hK K; simp only [Act.put, List.setIfInBounds_toArray, List.set_cons_zero, List.set_cons_succ]
  refine plan_exact rfl (fun K hK => quiet_runX (v := ?_) ?_ (hK _ ?_)); rotate_left; (go_simp <;> with_reducible rfl); clear hK K; simp only [Act.put, List.setIfInBounds_toArray, List.set_cons_zero, List.set_cons_succ]
  refine plan_nil ?_; simp only [tailL, List.filterMap_nil]
  clear cHB zHB lHB cBY zBY lBY
  obtain ⟨cB0, zB0⟩ := B0.out.reads
  have lB0 := B0.out.lt
  go_wp2_with fail
  have q := (((B0.out.set 0 (.int .i64 0)).set 1 (.int .i64 0)).set 2 (.int .i64 0)).set 3 (.slice none 0 0)
  dsimp only [List.set_cons_zero, List.set_cons_succ] at q
  have q1 := q.reads.1
  have hs := Sz.out
  clear cB0 zB0 lB0
  refine bodyPost_ret (v := .tuple #[zeroP, .int .i64 210]) (by simp [results, Try.results30, go_sem, q1, zeroP]) rfl ⟨rfl, ?_⟩
  exact HE.out.then (((((Keeps.refl (OneB w.heap.size) w2).setOne 0 _).setOne 1 _).setOne 2 _).setOne 3 _).drew (fun i hi h => by unfold OneB at h; omega)
set_option maxHeartbeats 1000000 in
theorem peek_ok {F M : Nat → Prop} (w : World) (b : Nat) (N : NA) (f t p : Int) (h : NetX w F M b N) (hp : I64 p) (hk : N.pickErr f t = 0) (i : Nat) (x : Pc) (hi : pickOf p (N.on f t) = i) (hx : N.l[i]? = some x) (hdn : (x.src, x.dst) ∉ N.downs) :
    Calls Try.prog 30 #[.pointer (some ⟨b, 0, none⟩), .int .i64 f, .int .i64 t, .int .i64 p] w fun e w' => ∃ bv, e = .returned (.tuple #[.agg #[.int .i64 (x.num : Int), .int .i64 x.src, .int .i64 x.dst, bv], .int .i64 0]) ∧ Bytes w' (Fr w w') bv x.bytes ∧ WrN w' bv ∧ Ext w w' := by
  have hdd : decide ((x.src, x.dst) ∈ N.downs) = false := decide_eq_false hdn
  have HDD := Lib.hid hdd
  clear hdn hdd
  obtain ⟨hl, ho⟩ := NA.pick_zero hk
  have HN := Lib.hid h
  have HI := Lib.hid hi
  have hmo := h.m1
  have hll := h.ll
  have hil : i < N.l.length := (List.getElem?_eq_some_iff.1 hx).1
  have hxi : N.l[i] = x := by rw [List.getElem?_eq_getElem hil] at hx; injection hx
  have hok := h.ok x (hxi ▸ List.getElem_mem hil)
  have he1 := h.e1
  have HL := Lib.hid hl
  have HO := Lib.hid ho
  have HXI := Lib.hid hxi
  clear h hk hl ho hi hx hxi
  go_enter Try.func30, Try.ntmps30
  go_wp2_with fail
  have bz0 := (Box.new w 50 [.int .i64 0, .int .i64 0, .int .i64 0, .slice none 0 0])
  have ez : Ext w (w.alloc (Obj.cells #[.int .i64 0, .int .i64 0, .int .i64 0, .slice none 0 0] 50)) := ((Keeps.refl NoB w).alloc _)
  have sz : (w.alloc (Obj.cells #[.int .i64 0, .int .i64 0, .int .i64 0, .slice none 0 0] 50)).heap.size = w.heap.size + 1 := by simp
  generalize (w.alloc (Obj.cells #[.int .i64 0, .int .i64 0, .int .i64 0, .slice none 0 0] 50)) = w0 at bz0 ez sz ⊢
  have Sz := Lib.hid sz
  clear sz
  refine (pick_some w0 b N f t p (HN.out.ext ez) HL.out hp HO.out).mono ?_
  rintro e w1 ⟨rfl, hE⟩
  rw [HI.out]
  have HE := Lib.hid (ez.ext hE)
  have B0 := Lib.hid (bz0.ext hE)
  have h01 := hE.size
  have hz1 := (bz0.ext hE).lt
  clear hE ez bz0
  obtain ⟨A, m, a, c, hb, hv, hs, hA⟩ := (HN.out.ext HE.out).see
  obtain ⟨-, hat⟩ := hv.at
  obtain ⟨g, o, rfl, hc, hAg, hpar⟩ := hat i hil
  rw [HXI.out] at hpar
  obtain ⟨i0, i1, i2, a3, n3, i3, i4⟩ := hpar.reads
  have HB := Lib.hid hb
  have HI4 := Lib.hid i4
  have hgl := hA g hAg
  have HDN := Lib.hid hs
  clear hb hv hs hA hat hpar i4
  obtain ⟨cHB, zHB⟩ := HB.out.reads
  have lHB := HB.out.lt
  go_wp2_with fail
  have by0 := (Box.new w1 81 [.int .i64 (x.num : Int), .int .i64 x.src, .int .i64 x.dst, .slice a3 x.bytes.length n3])
  have ey : Ext w1 (w1.alloc (Obj.cells #[.int .i64 (x.num : Int), .int .i64 x.src, .int .i64 x.dst, .slice a3 x.bytes.length n3] 81)) := ((Keeps.refl NoB w1).alloc _)
  have sy : (w1.alloc (Obj.cells #[.int .i64 (x.num : Int), .int .i64 x.src, .int .i64 x.dst, .slice a3 x.bytes.length n3] 81)).heap.size = w1.heap.size + 1 := by simp
  generalize (w1.alloc (Obj.cells #[.int .i64 (x.num : Int), .int .i64 x.src, .int .i64 x.dst, .slice a3 x.bytes.length n3] 81)) = w2 at by0 ey sy ⊢
  have Sy := Lib.hid sy
  clear sy
  have BY := Lib.hid by0
  have h12 := ey.size
  clear cHB zHB lHB
  replace HE := Lib.hid (HE.out.ext ey)
  replace B0 := Lib.hid (B0.out.ext ey)
  replace HB := Lib.hid (HB.out.ext ey)
  replace HI4 := Lib.hid (HI4.out.ext ey)
  replace HDN := Lib.hid (HDN.out.ext ey)
  clear ey by0 i0 i1 i2 i3
  have hd := fun (W : World) (hW : Ext w2 W) => run_isdown (HDN.out.ext hW) (show I64 x.src by unfold I64; omega) (show I64 x.dst by unfold I64; omega) _ rfl
  rw [HDD.out] at hd
  obtain ⟨cHB, zHB⟩ := HB.out.reads
  have lHB := HB.out.lt
  obtain ⟨cBY, zBY⟩ := BY.out.reads
  have lBY := BY.out.lt
  have hE0 : Keeps NoB w2 w2.drew := (Keeps.refl _ _).drew
  refine wp_region_plan [(0, 0), (0, 1), (0, 2), (3, 3), (0, 4), (0, 5), (3, 6), (0, 7), (0, 8), (3, 9), (0, 10), (3, 11)] [] [] [] (ClsE w2) (by kernel_rfl) (by kernel_rfl) (by kernel_rfl) rfl rfl (ClsE.of hE0) (fun _ _ _ d _ h => by cases d <;> exact h) ?_; simp only [planL, List.getElem?_toArray, List.getElem?_cons_succ, List.getElem?_cons_zero]
  refine plan_pure rfl (fun K hK => quiet_move' _ rfl (hK _ ?_)); clear hK K; simp only [Act.put, Act.eval, Array.getD_eq_getD_getElem?, List.getElem?_toArray, List.getElem?_cons_zero, Option.getD_some, List.setIfInBounds_toArray, List.set_cons_zero, List.set_cons_succ]
  refine plan_pure rfl (fun K hK => quiet_run (v := ?_) (fun W _ => ?_) (hK _ ?_)); rotate_left; (go_simp <;> with_reducible rfl); clear hK K; simp only [Act.put, List.setIfInBounds_toArray, List.set_cons_zero, List.set_cons_succ]
  refine plan_pure rfl (fun K hK => quiet_run (v := ?_) (fun W _ => ?_) (hK _ ?_)); rotate_left; (go_simp <;> with_reducible rfl); clear hK K; simp only [Act.put, List.setIfInBounds_toArray, List.set_cons_zero, List.set_cons_succ]
  refine plan_exact rfl (fun K hK => quiet_runX (v := ?_) ?_ (hK _ ?_)); rotate_left; (go_simp <;> with_reducible rfl); clear hK K; simp only [Act.put, List.setIfInBounds_toArray, List.set_cons_zero, List.set_cons_succ]
  refine plan_pure rfl (fun K hK => quiet_run (v := ?_) (fun W _ => ?_) (hK _ ?_)); rotate_left; (go_simp <;> with_reducible rfl); clear hK K; simp only [Act.put, List.setIfInBounds_toArray, List.set_cons_zero, List.set_cons_succ]
  refine plan_pure rfl (fun K hK => quiet_run (v := ?_) (fun W _ => ?_) (hK _ ?_)); rotate_left; (go_simp <;> with_reducible rfl); clear hK K; simp only [Act.put, List.setIfInBounds_toArray, List.set_cons_zero, List.set_cons_succ]
  refine plan_exact rfl (fun K hK => quiet_runX (v := ?_) ?_ (hK _ ?_)); rotate_left; (go_simp <;> with_reducible rfl); clear hK K; simp only [Act.put, List.setIfInBounds_toArray, List.set_cons_zero, List.set_cons_succ]
  refine plan_pure rfl (fun K hK => quiet_run (v := ?_) (fun W _ => ?_) (hK _ ?_)); rotate_left; (go_simp <;> with_reducible rfl); clear hK K; simp only [Act.put, List.setIfInBounds_toArray, List.set_cons_zero, List.set_cons_succ]
  refine plan_pure rfl (fun K hK => quiet_run (v := ?_) (fun W _ => ?_) (hK _ ?_)); rotate_left; (go_simp <;> with_reducible rfl); clear hK K; simp only [Act.put, List.setIfInBounds_toArray, List.set_cons_zero, List.set_cons_succ]
  refine plan_exact rfl (fun K hK => quiet_runX (v := ?_) ?_ (hK _ ?_)); rotate_left; (go_simp <;> with_reducible rfl); clear hK K; simp only [Act.put, List.setIfInBounds_toArray, List.set_cons_zero, List.set_cons_succ]
  refine plan_pure rfl (fun K hK => quiet_run (v := ?_) (fun W _ => ?_) (hK _ ?_)); rotate_left; (go_simp <;> with_reducible rfl); clear hK K; simp only [Act.put, List.setIfInBounds_toArray, List.set_cons_zero, List.set_cons_succ]
  refine plan_exact rfl (fun K hK => quiet_runX (v := ?_) ?_ (hK _ ?_)); rotate_left; (go_simp <;> with_reducible rfl); clear hK K; simp only [Act.put, List.setIfInBounds_toArray, List.set_cons_zero, List.set_cons_succ]
  refine plan_nil ?_; simp only [tailL, List.filterMap_nil]
  go_wp2_with fail
  refine (told_any (A := A) _ _ x ⟨_, rfl, HI4.out.ext hE0⟩ (by omega)).mono ?_
  rintro e w3 ⟨v', rfl, ⟨bv, rfl, hb', hw⟩, hE3⟩
  obtain ⟨a4, c4, rfl⟩ := hb'.len
  have HB4 := Lib.hid hb'
  have HW4 := Lib.hid hw
  clear cHB zHB lHB cBY zBY lBY
  have hE03 := hE0.ext hE3
  replace HE := Lib.hid (HE.out.ext hE03)
  replace B0 := Lib.hid (B0.out.ext hE03)
  have h23 := hE03.size
  clear hb' hw hE3 hE03 hE0 hd
  obtain ⟨cB0, zB0⟩ := B0.out.reads
  have lB0 := B0.out.lt
  go_wp2_with fail
  have hs := Sz.out
  have q := (((B0.out.set 0 (.int .i64 (x.num : Int))).set 1 (.int .i64 x.src)).set 2 (.int .i64 x.dst)).set 3 (.slice a4 x.bytes.length c4)
  dsimp only [List.set_cons_zero, List.set_cons_succ] at q
  have hk : Keeps (OneB w.heap.size) w3 ((((w3.setCell ⟨w.heap.size, 0, none⟩ (.int .i64 (x.num : Int))).setCell ⟨w.heap.size, 1, none⟩ (.int .i64 x.src)).setCell ⟨w.heap.size, 2, none⟩ (.int .i64 x.dst)).setCell ⟨w.heap.size, 3, none⟩ (.slice a4 x.bytes.length c4)) :=
    ((((Keeps.refl (OneB w.heap.size) w3).setOne 0 _).setOne 1 _).setOne 2 _).setOne 3 _
  have q1 := q.reads.1
  clear cB0 zB0 lB0
  refine bodyPost_ret (v := .tuple #[.agg #[.int .i64 (x.num : Int), .int .i64 x.src, .int .i64 x.dst, .slice a4 x.bytes.length c4], .int .i64 0]) (by simp [results, Try.results30, go_sem, q1]) rfl ⟨_, rfl, ?_, ?_, ?_⟩
  · refine (HB4.out.keeps hk (fun k hk h => ?_)).mono (fun k hk' => ?_)
    · have h9 : w2.heap.size ≤ k := hk.1; have h8 : k = w.heap.size := h; omega
    · have h9 : w2.heap.size ≤ k := hk'.1; have h8 := hk.size; have h7 := hk'.2; exact ⟨by omega, by omega⟩
  · exact WrN.keeps HB4.out HW4.out hk (fun k hk => ⟨fun h => by have h9 : w2.heap.size ≤ k := hk.1; have h8 : k = w.heap.size := h; omega, hk.2⟩)
  · exact HE.out.then hk (fun i hi h => by unfold OneB at h; omega)
theorem take_none {F M : Nat → Prop} (w : World) (b : Nat) (N : NA) (f t p : Int) (h : NetX w F M b N) (k : Nat)
    (hpk : ∀ w, NetX w F M b N → Calls Try.prog 30 #[.pointer (some ⟨b, 0, none⟩), .int .i64 f, .int .i64 t, .int .i64 p] w fun e w' => e = .returned (.tuple #[zeroP, .int .i64 (k : Int)]) ∧ Ext w w') (h0 : k ≠ 0) :
    Calls Try.prog 23 #[.pointer (some ⟨b, 0, none⟩), .int .i64 f, .int .i64 t, .int .i64 p] w fun e w' => e = .returned (.tuple #[zeroP, .int .i64 (k : Int)]) ∧ Ext w w' := by
  have HN := Lib.hid h
  have HP := Lib.hid hpk
  have hz : ((k : Int) == 0) = false := beq_eq_false_iff_ne.2 (by omega)
  clear h hpk
  go_enter Try.func23, Try.ntmps23
  go_wp2_with fail
  have bz0 := (Box.new w 50 [.int .i64 0, .int .i64 0, .int .i64 0, .slice none 0 0])
  have ez : Ext w (w.alloc (Obj.cells #[.int .i64 0, .int .i64 0, .int .i64 0, .slice none 0 0] 50)) := ((Keeps.refl NoB w).alloc _)
  have sz : (w.alloc (Obj.cells #[.int .i64 0, .int .i64 0, .int .i64 0, .slice none 0 0] 50)).heap.size = w.heap.size + 1 := by simp
  generalize (w.alloc (Obj.cells #[.int .i64 0, .int .i64 0, .int .i64 0, .slice none 0 0] 50)) = w0 at bz0 ez sz ⊢
  have Sz := Lib.hid sz
  clear sz
  have hs0 := Sz.out
  refine (HP.out w0 (HN.out.ext ez)).mono ?_
  rintro e w1 ⟨rfl, hE⟩
  unfold zeroP
  have HE := Lib.hid (ez.ext hE)
  have B0 := Lib.hid (bz0.ext hE)
  have h01 := hE.size
  clear ez bz0 hE
  obtain ⟨cB0, zB0⟩ := B0.out.reads
  have lB0 := B0.out.lt
  go_wp2_with fail
  have q := ((((B0.out.set 0 (.int .i64 0)).set 1 (.int .i64 0)).set 2 (.int .i64 0)).set 3 (.slice none 0 0)).alloc (Obj.cells #[.int .i64 0, .int .i64 0, .int .i64 0, .slice none 0 0] 50)
  dsimp only [List.set_cons_zero, List.set_cons_succ] at q
  have q1 := q.reads.1
  have hk := (((((Keeps.refl (OneB w.heap.size) w1).setOne 0 (.int .i64 0)).setOne 1 (.int .i64 0)).setOne 2 (.int .i64 0)).setOne 3 (.slice none 0 0)).alloc (Obj.cells #[.int .i64 0, .int .i64 0, .int .i64 0, .slice none 0 0] 50)
  generalize ((((w1.setCell ⟨w.heap.size, 0, none⟩ (.int .i64 0)).setCell ⟨w.heap.size, 1, none⟩ (.int .i64 0)).setCell ⟨w.heap.size, 2, none⟩ (.int .i64 0)).setCell ⟨w.heap.size, 3, none⟩ (.slice none 0 0)).alloc (Obj.cells #[.int .i64 0, .int .i64 0, .int .i64 0, .slice none 0 0] 50) = w4 at q1 hk ⊢
  clear cB0 zB0 lB0
  refine bodyPost_ret (v := .tuple #[zeroP, .int .i64 (k : Int)]) (by simp [results, Try.results23, go_sem, q1, zeroP]) rfl ⟨rfl, ?_⟩
  exact HE.out.then hk (fun i hi h => by unfold OneB at h; omega)
set_option maxHeartbeats 1000000 in
theorem take_ok {F M : Nat → Prop} (w : World) (b : Nat) (N : NA) (f t p : Int) (h : NetX w F M b N) (hp : I64 p) (hk : N.pickErr f t = 0) (i : Nat) (x : Pc) (hi : pickOf p (N.on f t) = i) (hx : N.l[i]? = some x) (hdn : (x.src, x.dst) ∉ N.downs) :
    Calls Try.prog 23 #[.pointer (some ⟨b, 0, none⟩), .int .i64 f, .int .i64 t, .int .i64 p] w fun e w' => ∃ F' M' bv, e = .returned (.tuple #[.agg #[.int .i64 (x.num : Int), .int .i64 x.src, .int .i64 x.dst, bv], .int .i64 0]) ∧ Bytes w' (fun k => Fr w w' k ∧ ¬ M' k) bv x.bytes ∧ NetX w' F' M' b (N.without i) ∧ Step w w' F M F' M' := by
  have HN := Lib.hid h
  have HPK := Lib.hid (fun w (h : NetX w F M b N) => peek_ok w b N f t p h hp hk i x hi hx hdn)
  have HDR := Lib.hid (fun w (M : Nat → Prop) (h : NetX w F M b N) => drop_ok w b N f t p h hp hk i x hi hx)
  have hbelow := h.below
  have HBL := Lib.hid hbelow
  clear h hk hi hx hdn hbelow
  go_enter Try.func23, Try.ntmps23
  go_wp2_with fail
  have bz0 := (Box.new w 50 [.int .i64 0, .int .i64 0, .int .i64 0, .slice none 0 0])
  have ez : Ext w (w.alloc (Obj.cells #[.int .i64 0, .int .i64 0, .int .i64 0, .slice none 0 0] 50)) := ((Keeps.refl NoB w).alloc _)
  have sz : (w.alloc (Obj.cells #[.int .i64 0, .int .i64 0, .int .i64 0, .slice none 0 0] 50)).heap.size = w.heap.size + 1 := by simp
  generalize (w.alloc (Obj.cells #[.int .i64 0, .int .i64 0, .int .i64 0, .slice none 0 0] 50)) = w0 at bz0 ez sz ⊢
  have Sz := Lib.hid sz
  clear sz
  have hs0 := Sz.out
  refine (HPK.out w0 (HN.out.ext ez)).mono ?_
  rintro e w1 ⟨bv, rfl, hb', hw, hE⟩
  obtain ⟨a4, c4, rfl⟩ := hb'.len
  have HE := Lib.hid (ez.ext hE)
  have B0 := Lib.hid (bz0.ext hE)
  have HV := Lib.hid hb'
  have h01 := hE.size
  clear ez bz0 hE hb' hw
  obtain ⟨cB0, zB0⟩ := B0.out.reads
  have lB0 := B0.out.lt
  go_wp2_with fail
  have by0 := (Box.new w1 50 [.int .i64 (x.num : Int), .int .i64 x.src, .int .i64 x.dst, .slice a4 x.bytes.length c4])
  have ey : Ext w1 (w1.alloc (Obj.cells #[.int .i64 (x.num : Int), .int .i64 x.src, .int .i64 x.dst, .slice a4 x.bytes.length c4] 50)) := ((Keeps.refl NoB w1).alloc _)
  have sy : (w1.alloc (Obj.cells #[.int .i64 (x.num : Int), .int .i64 x.src, .int .i64 x.dst, .slice a4 x.bytes.length c4] 50)).heap.size = w1.heap.size + 1 := by simp
  generalize (w1.alloc (Obj.cells #[.int .i64 (x.num : Int), .int .i64 x.src, .int .i64 x.dst, .slice a4 x.bytes.length c4] 50)) = w2 at by0 ey sy ⊢
  have Sy := Lib.hid sy
  clear sy
  have BY := Lib.hid by0
  have hy2 := by0.lt
  clear cB0 zB0 lB0
  replace HE := Lib.hid (HE.out.ext ey)
  replace B0 := Lib.hid (B0.out.ext ey)
  replace HV := Lib.hid (HV.out.ext ey)
  have h12 := ey.size
  have hM2 : NetX w2 F (fun k => M k ∨ k = w.heap.size ∨ k = w1.heap.size ∨ Fr w0 w1 k) b N := HN.out.more HE.out (fun k hk => .inl hk) (fun k hk => by
    rcases hk with hk | hk | hk | hk
    · exact .inl hk
    · exact .inr (by omega)
    · exact .inr (by omega)
    · have h9 : w0.heap.size ≤ k := hk.1; have h8 := hk.2; exact .inr (by omega))
  clear ey by0
  refine (HDR.out w2 _ hM2).mono ?_
  rintro e w3 ⟨F', M', rfl, hn3, hst⟩
  have hFw : ∀ k, F k → k < w.heap.size := fun k hk => HBL.out k (HN.out.FM k hk)
  have HF := Lib.hid hFw
  replace B0 := Lib.hid (B0.out.keeps hst.keeps (fun h => by have := hFw _ h; omega))
  replace BY := Lib.hid (BY.out.keeps hst.keeps (fun h => by have := hFw _ h; omega))
  replace HV := Lib.hid (HV.out.keeps hst.keeps (fun k hk h => by have := hFw _ h; have h9 : w0.heap.size ≤ k := hk.1; omega))
  have HN3 := Lib.hid hn3
  have HST := Lib.hid hst
  have h23 := hst.keeps.size
  clear hn3 hst hM2 hFw
  obtain ⟨cB0, zB0⟩ := B0.out.reads
  have lB0 := B0.out.lt
  obtain ⟨cBY, zBY⟩ := BY.out.reads
  have lBY := BY.out.lt
  go_wp2_with fail
  have q := (((B0.out.set 0 (.int .i64 (x.num : Int))).set 1 (.int .i64 x.src)).set 2 (.int .i64 x.dst)).set 3 (.slice a4 x.bytes.length c4)
  dsimp only [List.set_cons_zero, List.set_cons_succ] at q
  have hk : Keeps (OneB w.heap.size) w3 ((((w3.setCell ⟨w.heap.size, 0, none⟩ (.int .i64 (x.num : Int))).setCell ⟨w.heap.size, 1, none⟩ (.int .i64 x.src)).setCell ⟨w.heap.size, 2, none⟩ (.int .i64 x.dst)).setCell ⟨w.heap.size, 3, none⟩ (.slice a4 x.bytes.length c4)) :=
    ((((Keeps.refl (OneB w.heap.size) w3).setOne 0 _).setOne 1 _).setOne 2 _).setOne 3 _
  have q1 := q.reads.1
  generalize ((((w3.setCell ⟨w.heap.size, 0, none⟩ (.int .i64 (x.num : Int))).setCell ⟨w.heap.size, 1, none⟩ (.int .i64 x.src)).setCell ⟨w.heap.size, 2, none⟩ (.int .i64 x.dst)).setCell ⟨w.heap.size, 3, none⟩ (.slice a4 x.bytes.length c4)) = w4 at q1 hk ⊢
  clear cB0 zB0 lB0 cBY zBY lBY
  have hst := HST.out
  have h34 := hk.size
  have hF' : ∀ k, F' k → F k ∨ w2.heap.size ≤ k := hst.inF
  refine bodyPost_ret (v := .tuple #[.agg #[.int .i64 (x.num : Int), .int .i64 x.src, .int .i64 x.dst, .slice a4 x.bytes.length c4], .int .i64 0]) (by simp [results, Try.results23, go_sem, q1]) rfl ⟨F', fun k => M k ∨ F' k, _, rfl, ?_, ?_, ?_⟩
  · refine (HV.out.keeps hk (fun k hk h => ?_)).mono (fun k hk' => ?_)
    · have h9 : w0.heap.size ≤ k := hk.1; have h8 : k = w.heap.size := h; omega
    · have h9 : w0.heap.size ≤ k := hk'.1
      have h7 := hk'.2
      refine ⟨⟨by omega, by omega⟩, fun hm => ?_⟩
      rcases hm with hm | hm
      · have := HBL.out k hm; omega
      · rcases hF' k hm with h | h
        · have := HF.out k h; omega
        · omega
  · refine (HN3.out.keeps hk (fun k hf h => ?_) (fun k _ h => hst.sub k (.inr (.inl h)))).less (fun k hk' => ?_) (fun k hk' => .inr hk')
    · have h8 : k = w.heap.size := h
      rcases hF' k hf with h | h
      · have := HF.out k h; omega
      · omega
    · rcases hk' with h | h
      · exact hst.sub k (.inl h)
      · exact HN3.out.FM k h
  · refine ⟨((Ext.keeps HE.out : Keeps F w w2).trans hst.keeps).then hk (fun i hi h => by unfold OneB at h; omega), fun k hk' => (hF' k hk').imp id (fun h => by omega), fun k hk' => ?_, fun k hk' => .inl hk'⟩
    rcases hk' with h | h
    · exact .inl h
    · rcases hF' k h with h | h
      · exact .inl (HN.out.FM k h)
      · exact .inr (by omega)
end Go.Proofs.Ytdiogipdcpiffaa
