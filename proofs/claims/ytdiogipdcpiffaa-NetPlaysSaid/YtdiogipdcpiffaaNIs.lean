/- The net statements' question whether a net stands as the document's: it does. Conditions: the net lies as 'NetX' says, the document's as 'RefX' says. -/
import Derived.Test.YtdiogipdcpiffaaNActD
import Derived.Test.YtdiogipdcpiffaaNetN
set_option linter.unusedVariables false
set_option maxHeartbeats 400000
namespace Go.Proofs.Ytdiogipdcpiffaa
open Go.RowKit
attribute [local go_sem] Oper.semAt_some

theorem RefX.parAt {w : World} {M : Nat → Prop} {N : NA} {a a' : Option Addr} {c c' n n' : Nat} {z0 z1 z2 : Value} (h : RefX w M (.agg #[z0, z1, z2, .slice a n c, .slice a' n' c']) N) :
    n = N.l.length ∧ ∀ i (hi : i < N.l.length), ∃ A b o, a = some ⟨b, o, none⟩ ∧ N.l.length ≤ c ∧ b < w.heap.size ∧ ParAt w A b (o + i * 4) N.l[i] := by
  obtain ⟨A, h1, hA⟩ := h
  obtain ⟨a1, c1, a2, c2, he, hp, -⟩ := h1.args
  simp only [Value.agg.injEq, Array.mk.injEq, List.cons.injEq, Value.slice.injEq] at he
  obtain ⟨-, -, -, ⟨rfl, rfl, rfl⟩, -⟩ := he
  refine ⟨rfl, fun i hi => ?_⟩
  obtain ⟨b, o, h1, h2, h3, h4⟩ := hp.at.2 i hi
  exact ⟨A, b, o, h1, h2, (hA b h3).1, h4⟩
theorem seq_nil (w : World) (f : FuncId) (p : Option Addr) : (binOp .eql 45 (.func (.func f) #[] #[.pointer p]) .nilFunc).run Try.prog w = .ok (.bool false) w := by kernel_rfl

set_option maxRecDepth 100000 in
set_option maxHeartbeats 4000000 in
theorem is_any {F M : Nat → Prop} (w : World) (b : Nat) (N : NA) (v : Value) (hn : NetX w F M b N) (hr : RefX w M v N) (hc : N.came ≤ 1000000) :
    Calls Try.prog 28 #[.pointer (some ⟨b, 0, none⟩), v] w fun e w' => e = .returned (.bool true) ∧ Ext w w' := by
  refine (callsIn_wide (n := 9)).1 (callsIn_of_wp_marks Try.func28 rfl trivial ?_ rfl)
  simp only [Try.ntmps28, List.size_toArray, List.length_cons, List.length_nil, Nat.reduceAdd, Nat.reduceSub, Array.replicate_succ, Array.replicate_zero, List.push_toArray, List.append_toArray, List.nil_append, List.cons_append]
  have HN := Lib.hid hn
  have HR := Lib.hid hr
  obtain ⟨a, c, a', c', rfl⟩ := hr.len
  have hle : N.l.length ≤ 4096 := by have := hn.ll; have := hn.m1; omega
  have HX : Hid (∀ x ∈ N.l, x.bytes.length ≤ 8192) := Lib.hid (fun x hx => (hn.ok x hx).1)
  clear hn hr
  gi_wp2_with fail
  have ba0 := (((Box.new w 41 [.int .i64 (N.ends : Int), .int .i64 (N.most : Int), .int .i64 (N.came : Int), .slice a N.l.length c, .slice a' N.downs.length c']).alloc (Obj.cells #[.bool false] 4)).alloc (Obj.cells #[.int .i64 0] 3))
  have ba1 := ((Box.new (w.alloc (Obj.cells #[.int .i64 (N.ends : Int), .int .i64 (N.most : Int), .int .i64 (N.came : Int), .slice a N.l.length c, .slice a' N.downs.length c'] 41)) 4 [.bool false]).alloc (Obj.cells #[.int .i64 0] 3))
  have ba2 := (Box.new ((w.alloc (Obj.cells #[.int .i64 (N.ends : Int), .int .i64 (N.most : Int), .int .i64 (N.came : Int), .slice a N.l.length c, .slice a' N.downs.length c'] 41)).alloc (Obj.cells #[.bool false] 4)) 3 [.int .i64 0])
  have ea : Ext w (((w.alloc (Obj.cells #[.int .i64 (N.ends : Int), .int .i64 (N.most : Int), .int .i64 (N.came : Int), .slice a N.l.length c, .slice a' N.downs.length c'] 41)).alloc (Obj.cells #[.bool false] 4)).alloc (Obj.cells #[.int .i64 0] 3)) := ((((Keeps.refl NoB w).alloc _).alloc _).alloc _)
  have sa : (((w.alloc (Obj.cells #[.int .i64 (N.ends : Int), .int .i64 (N.most : Int), .int .i64 (N.came : Int), .slice a N.l.length c, .slice a' N.downs.length c'] 41)).alloc (Obj.cells #[.bool false] 4)).alloc (Obj.cells #[.int .i64 0] 3)).heap.size = w.heap.size + 3 := by simp
  simp only [World.size_alloc] at ba1 ba2
  generalize (((w.alloc (Obj.cells #[.int .i64 (N.ends : Int), .int .i64 (N.most : Int), .int .i64 (N.came : Int), .slice a N.l.length c, .slice a' N.downs.length c'] 41)).alloc (Obj.cells #[.bool false] 4)).alloc (Obj.cells #[.int .i64 0] 3)) = w0 at ba0 ba1 ba2 ea sa ⊢
  have Sa := Lib.hid sa
  clear sa
  have HN0 : Hid (NetX w0 F (fun k => M k ∨ k = w.heap.size + 1 + 1) b N) := Lib.hid (HN.out.more ea (fun k hk => .inl hk) (fun k hk => hk.imp id (fun h => by have := ba2.lt; omega)))
  have HE := Lib.hid ea
  have BA := Lib.hid ba0
  have BB := Lib.hid ba1
  have BC := Lib.hid ba2
  have hs0 := ba2.lt
  clear ea ba0 ba1 ba2
  refine ⟨trivial, callsIn_wide.2 ((all_net w0 b N HN0.out).mono ?_)⟩
  rintro e w6 ⟨rfl, -, hE⟩
  replace HE := Lib.hid (HE.out.ext hE)
  replace BA := Lib.hid (BA.out.ext hE)
  replace BB := Lib.hid (BB.out.ext hE)
  replace BC := Lib.hid (BC.out.ext hE)
  replace HN0 := Lib.hid (HN0.out.ext hE)
  have h06 := hE.size
  have hsn := seq_nil w6 45 (some ⟨w0.heap.size, 0, none⟩)
  clear hE
  obtain ⟨cBA, zBA⟩ := BA.out.reads
  have lBA := BA.out.lt
  obtain ⟨cBB, zBB⟩ := BB.out.reads
  have lBB := BB.out.lt
  obtain ⟨cBC, zBC⟩ := BC.out.reads
  have lBC := BC.out.lt
  gi_wp2_with fail
  clear cBA zBA lBA cBB zBB lBB cBC zBC lBC
  refine ⟨trivial, callsIn_wide.2 ((all_net w6 b N HN0.out).mono ?_)⟩
  rintro e w7 ⟨rfl, hs, hE⟩
  have HS := Lib.hid hs
  replace HE := Lib.hid (HE.out.ext hE)
  replace BA := Lib.hid (BA.out.ext hE)
  replace BB := Lib.hid (BB.out.ext hE)
  replace BC := Lib.hid (BC.out.ext hE)
  replace HN0 := Lib.hid (HN0.out.ext hE)
  have h67 := hE.size
  have hl7 := BA.out.lt
  have hl7' := BB.out.lt
  have hl7'' := BC.out.lt
  clear hE hs hsn
  gi_wp2_with fail
  have hsx := HS.out.lt
  refine wpIn_range rfl (by omega) (gf := 45) (lb := #[.pointer (some ⟨w6.heap.size, 0, none⟩)]) rfl trivial (enters_of Try.func45 (by kernel_rfl) rfl)
    (S := OneB (w.heap.size + 1 + 1)) (iter_net w7 w6.heap.size N.l HS.out (by unfold OneB; omega) (fun k h1 h2 => h1.2.1 (.inr h2)) HX.out hle) (by rintro x v W0 W ⟨bv, rfl, _⟩; rfl)
    (fun k W => Keeps (OneB (w.heap.size + 1 + 1)) w7 W ∧ Box W (w.heap.size + 1 + 1) 3 [.int .i64 (k : Int)])
    (fun _ _ _ => False) (fun k W h => h.1)
    (fun k W W' h hk => ⟨h.1.then hk (fun i hi h => by unfold OneB at h ⊢; omega), h.2.keeps hk (by unfold OneB; omega)⟩)
    (fun _ _ _ _ h _ => h) ⟨Keeps.refl _ _, BC.out⟩ ?_ ?_ (fun _ _ _ _ h _ => h.elim)
  · rintro k hk v W0 W - hE0 ⟨hkW, hb0⟩ ⟨bv, rfl, hbv, hwr, hn⟩ hlt0 hlt
    obtain ⟨av, cv, rfl⟩ := hbv.len
    have HKW := Lib.hid hkW
    have HB0 := Lib.hid hb0
    have HBV := Lib.hid hbv
    have h7W := hkW.size
    clear hkW hb0 hbv hwr hE0
    obtain ⟨y, hy⟩ : ∃ y, N.l[k] = y := ⟨_, rfl⟩
    rw [hy] at HBV ⊢
    have HY := Lib.hid hy
    clear hy
    gi_wp2_with fail
    refine ⟨(Keeps.refl _ _).alloc _, fun W2 hW2 => ?_⟩
    have bx := (Box.new W 50 [.int .i64 (y.num : Int), .int .i64 y.src, .int .i64 y.dst, .slice av y.bytes.length cv]).keeps hW2 (by unfold OneB; omega)
    have b0 := (HB0.out.alloc (Obj.cells #[.int .i64 (y.num : Int), .int .i64 y.src, .int .i64 y.dst, .slice av y.bytes.length cv] 50)).keeps hW2 (by unfold OneB; omega)
    have bw := ((BA.out.keeps HKW.out (by unfold OneB; omega)).alloc (Obj.cells #[.int .i64 (y.num : Int), .int .i64 y.src, .int .i64 y.dst, .slice av y.bytes.length cv] 50)).keeps hW2 (by unfold OneB; omega)
    have hkW2 : Keeps (OneB (w.heap.size + 1 + 1)) w7 W2 := (HKW.out.alloc _).then hW2 (fun i hi h => by unfold OneB at h; omega)
    have hEW2 : Keeps (OneB (w.heap.size + 1 + 1)) w W2 := (Ext.keeps HE.out).then hkW2 (fun i hi h => h)
    have hbv2 := ((HBV.out.keeps ((Keeps.refl NoB W).alloc (Obj.cells #[.int .i64 (y.num : Int), .int .i64 y.src, .int .i64 y.dst, .slice av y.bytes.length cv] 50)) (fun _ _ => noB _)).keeps hW2 (fun g hg h2 => by have := hg.1; unfold OneB at h2; omega))
    obtain ⟨-, hat⟩ := (HR.out.go (M' := M) hEW2 (fun k hk h => by unfold OneB at h; omega) (fun k hk => .inl hk)).parAt
    obtain ⟨A, bl, ol, rfl, hc, hAb, hpar⟩ := hat k hk
    rw [HY.out] at hpar
    obtain ⟨i0, i1, i2, aq, cq, i3, i4⟩ := hpar.reads
    have HI := Lib.hid i4
    have HV2 := Lib.hid hbv2
    have HK2 := Lib.hid hkW2
    obtain ⟨cx, zx⟩ := bx.reads
    obtain ⟨c0, z0⟩ := b0.reads
    obtain ⟨c1, z1⟩ := bw.reads
    have lx := bx.lt
    have l0 := b0.lt
    have l1 := bw.lt
    have C0 := Lib.hid b0
    have g0 : decide (N.l.length ≤ k) = false := by simp; omega
    have g1 : (k : Int) < (N.l.length : Int) := by omega
    have hk1000 : k ≤ 4096 := by omega
    clear hat i4 hbv2 hkW2 bx b0 bw hW2 hEW2 hpar
    gi_wp2_with fail
    have hE0 : Keeps NoB W2 W2.drew := (Keeps.refl _ _).drew
    refine wpIn_region_plan [(3, 0), (0, 1), (3, 2), (0, 3), (0, 4), (0, 5), (3, 6), (0, 7), (3, 8), (3, 9), (0, 10), (3, 11)] [] [12, 13, 14] [12, 13, 14] (ClsE W2) (by kernel_rfl) (by rintro ⟨_, _, h⟩; exact h) (by kernel_rfl) (by kernel_rfl) (by kernel_rfl) rfl rfl (ClsE.of hE0) (fun _ _ _ d _ h => by cases d <;> exact h) ?_; simp only [planL, List.getElem?_toArray, List.getElem?_cons_succ, List.getElem?_cons_zero]
    refine plan_exact rfl (fun K hK => quiet_runX (v := ?_) ?_ (hK _ ?_)); rotate_left; (go_simp <;> with_reducible rfl); clear hK K; simp only [Act.put, List.setIfInBounds_toArray, List.set_cons_zero, List.set_cons_succ]
    refine plan_pure rfl (fun K hK => quiet_run (v := ?_) (fun W _ => ?_) (hK _ ?_)); rotate_left; (go_simp <;> with_reducible rfl); clear hK K; simp only [Act.put, List.setIfInBounds_toArray, List.set_cons_zero, List.set_cons_succ]
    refine plan_exact rfl (fun K hK => quiet_runX (v := ?_) ?_ (hK _ ?_)); rotate_left; (go_simp <;> with_reducible rfl); clear hK K; simp only [Act.put, List.setIfInBounds_toArray, List.set_cons_zero, List.set_cons_succ]
    refine plan_pure rfl (fun K hK => quiet_run (v := ?_) (fun W _ => ?_) (hK _ ?_)); rotate_left; (go_simp <;> with_reducible rfl); clear hK K; simp only [Act.put, List.setIfInBounds_toArray, List.set_cons_zero, List.set_cons_succ]
    refine plan_pure rfl (fun K hK => quiet_run (v := ?_) (fun W _ => ?_) (hK _ ?_)); rotate_left; (go_simp <;> with_reducible rfl); clear hK K; simp only [Act.put, List.setIfInBounds_toArray, List.set_cons_zero, List.set_cons_succ]
    refine plan_pure rfl (fun K hK => quiet_move' _ rfl (hK _ ?_)); clear hK K; simp only [Act.put, Act.eval, Array.getD_eq_getD_getElem?, List.getElem?_toArray, List.getElem?_cons_zero, List.getElem?_cons_succ, Option.getD_some, List.setIfInBounds_toArray, List.set_cons_zero, List.set_cons_succ]
    first
    | (refine plan_skip rfl ?_; simp only [Act.put, List.setIfInBounds_toArray, List.set_cons_zero, List.set_cons_succ])
    | (refine plan_exact rfl (fun K hK => quiet_runX (v := ?_) ?_ (hK _ ?_)); rotate_left; (go_simp <;> with_reducible rfl); clear hK K; simp only [Act.put, List.setIfInBounds_toArray, List.set_cons_zero, List.set_cons_succ])
    first
    | (refine plan_skip rfl ?_; simp only [Act.put, List.setIfInBounds_toArray, List.set_cons_zero, List.set_cons_succ])
    | (refine plan_pure rfl (fun K hK => quiet_run (v := ?_) (fun W _ => ?_) (hK _ ?_)); rotate_left; (go_simp <;> with_reducible rfl); clear hK K; simp only [Act.put, List.setIfInBounds_toArray, List.set_cons_zero, List.set_cons_succ])
    first
    | (refine plan_skip rfl ?_; simp only [Act.put, List.setIfInBounds_toArray, List.set_cons_zero, List.set_cons_succ])
    | (refine plan_exact rfl (fun K hK => quiet_runX (v := ?_) ?_ (hK _ ?_)); rotate_left; (go_simp <;> with_reducible rfl); clear hK K; simp only [Act.put, List.setIfInBounds_toArray, List.set_cons_zero, List.set_cons_succ])
    first
    | (refine plan_skip rfl ?_; simp only [Act.put, List.setIfInBounds_toArray, List.set_cons_zero, List.set_cons_succ])
    | (refine plan_exact rfl (fun K hK => quiet_runX (v := ?_) ?_ (hK _ ?_)); rotate_left; (go_simp <;> with_reducible rfl); clear hK K; simp only [Act.put, List.setIfInBounds_toArray, List.set_cons_zero, List.set_cons_succ])
    first
    | (refine plan_skip rfl ?_; simp only [Act.put, List.setIfInBounds_toArray, List.set_cons_zero, List.set_cons_succ])
    | (refine plan_pure rfl (fun K hK => quiet_run (v := ?_) (fun W _ => ?_) (hK _ ?_)); rotate_left; (go_simp <;> with_reducible rfl); clear hK K; simp only [Act.put, List.setIfInBounds_toArray, List.set_cons_zero, List.set_cons_succ])
    first
    | (refine plan_skip rfl ?_; simp only [Act.put, List.setIfInBounds_toArray, List.set_cons_zero, List.set_cons_succ])
    | (refine plan_exact rfl (fun K hK => quiet_runX (v := ?_) ?_ (hK _ ?_)); rotate_left; (go_simp <;> with_reducible rfl); clear hK K; simp only [Act.put, List.setIfInBounds_toArray, List.set_cons_zero, List.set_cons_succ])
    refine plan_nil ?_; simp only [tailL, List.filterMap_cons, List.filterMap_nil, List.getElem?_toArray, List.getElem?_cons_succ, List.getElem?_cons_zero]; change wpList _ _ _ (_ :: _ :: _ :: []) _ _
    go_wp2_with fail
    refine (same_par _ y y _ _ ⟨_, rfl, HV2.out.keeps hE0 (fun _ _ => noB _)⟩ ⟨_, rfl, HI.out.keeps hE0 (fun _ _ => noB _)⟩).mono ?_
    rintro e W3 ⟨rfl, hE3⟩
    rw [sameP_self]
    have hE03 : Ext W2 W3 := hE0.ext hE3
    have HE3' := Lib.hid hE03
    clear hE3 hE03 hE0
    go_wp2_with fail
    have C3 := Lib.hid (C0.out.ext HE3'.out)
    have HK3 := Lib.hid (HK2.out.ext HE3'.out)
    have hc3 := C3.out
    obtain ⟨d0, y0⟩ := hc3.reads
    have l3 := hc3.lt
    clear c0 z0 c1 z1 cx zx lx l0 l1 hc3 i0 i1 i2 i3
    gi_wp2_with fail
    refine ⟨(Ext.keeps HE3'.out).setCell _ _ (.inl (.inl ⟨by show w.heap.size + 1 + 1 < w7.heap.size; omega, rfl⟩)), HK3.out.setCell _ _ (.inl rfl), ?_⟩
    have := C3.out.set 0 (.int .i64 ((k : Int) + 1))
    simpa using this
  · rintro W ⟨hkW, hb0⟩ hm
    have hsz7 := hkW.size
    have HK := Lib.hid hkW
    have HM := Lib.hid hm
    have D0 := Lib.hid hb0
    replace BA := Lib.hid (BA.out.keeps hkW (by unfold OneB; omega))
    replace BB := Lib.hid (BB.out.keeps hkW (by unfold OneB; omega))
    have HNW : Hid (NetX W F (fun k => M k ∨ k = w.heap.size + 1 + 1) b N) := Lib.hid (HN0.out.keeps hkW (fun k hk h => by have := HN.out.below k (HN.out.FM k hk); unfold OneB at h; omega) (fun k hk h => .inr h))
    clear hkW hb0 hm BC
    obtain ⟨cBA, zBA⟩ := BA.out.reads
    have lBA := BA.out.lt
    obtain ⟨cBB, zBB⟩ := BB.out.reads
    have lBB := BB.out.lt
    obtain ⟨cD0, zD0⟩ := D0.out.reads
    have lD0 := D0.out.lt
    gi_wp2_with fail
    refine wpIn_wide.2 (wp_region_noPanic ?_)
    have hE0 : Keeps NoB W W.drew := (Keeps.refl _ _).drew
    refine wp_region_plan [(3, 0), (0, 1), (3, 2), (0, 3), (0, 4), (0, 5), (0, 6), (1, 8), (2, 7), (0, 9), (0, 10), (0, 11), (0, 12), (0, 14), (1, 15), (2, 13), (0, 16), (0, 17)] [8, 15] [7, 13, 18] [18] (ClsE W) (by kernel_rfl) (by kernel_rfl) (by kernel_rfl) rfl rfl (ClsE.of hE0) (fun _ _ _ _ _ h => h) ?_; simp only [planL, List.getElem?_toArray, List.getElem?_cons_succ, List.getElem?_cons_zero]
    refine plan_exact rfl (fun K hK => quiet_runX (v := ?_) ?_ (hK _ ?_)); rotate_left; (go_simp <;> with_reducible rfl); clear hK K; simp only [Act.put, List.setIfInBounds_toArray, List.set_cons_zero, List.set_cons_succ]
    refine plan_pure rfl (fun K hK => quiet_run (v := ?_) (fun W _ => ?_) (hK _ ?_)); rotate_left; (go_simp <;> with_reducible rfl); clear hK K; simp only [Act.put, List.setIfInBounds_toArray, List.set_cons_zero, List.set_cons_succ]
    refine plan_exact rfl (fun K hK => quiet_runX (v := ?_) ?_ (hK _ ?_)); rotate_left; (go_simp <;> with_reducible rfl); clear hK K; simp only [Act.put, List.setIfInBounds_toArray, List.set_cons_zero, List.set_cons_succ]
    refine plan_pure rfl (fun K hK => quiet_run (v := ?_) (fun W _ => ?_) (hK _ ?_)); rotate_left; (go_simp <;> with_reducible rfl); clear hK K; simp only [Act.put, List.setIfInBounds_toArray, List.set_cons_zero, List.set_cons_succ]
    refine plan_pure rfl (fun K hK => quiet_run (v := ?_) (fun W _ => ?_) (hK _ ?_)); rotate_left; (go_simp <;> with_reducible rfl); clear hK K; simp only [Act.put, List.setIfInBounds_toArray, List.set_cons_zero, List.set_cons_succ]
    refine plan_pure rfl (fun K hK => quiet_move' _ rfl (hK _ ?_)); clear hK K; simp only [Act.put, Act.eval, Array.getD_eq_getD_getElem?, List.getElem?_toArray, List.getElem?_cons_zero, List.getElem?_cons_succ, Option.getD_some, List.setIfInBounds_toArray, List.set_cons_zero, List.set_cons_succ]
    first
    | (refine plan_skip rfl ?_; simp only [Act.put, List.setIfInBounds_toArray, List.set_cons_zero, List.set_cons_succ])
    | (refine plan_pure rfl (fun K hK => quiet_move' _ rfl (hK _ ?_)); clear hK K; simp only [Act.put, Act.eval, Array.getD_eq_getD_getElem?, List.getElem?_toArray, List.getElem?_cons_zero, Option.getD_some, List.setIfInBounds_toArray, List.set_cons_zero, List.set_cons_succ])
    first
    | (refine plan_skip rfl ?_; simp only [Act.put, List.setIfInBounds_toArray, List.set_cons_zero, List.set_cons_succ])
    | (refine plan_load rfl (fun K hK => quiet_runE (v := ?_) (fun W => ?_) (hK _ ?_)); rotate_left; (go_simp <;> with_reducible rfl); clear hK K; simp only [Act.put, List.setIfInBounds_toArray, List.set_cons_zero, List.set_cons_succ])
    first
    | (refine plan_skip rfl ?_; simp only [Act.put, List.setIfInBounds_toArray, List.set_cons_zero, List.set_cons_succ])
    | (refine plan_does rfl (fun K hK => ?_))
    go_wp2_with fail
    refine (len_any _ b N (-1) (-1) (HNW.out.ext hE0) N.l.length N.l.length (NA.len_all N) rfl).mono ?_
    rintro e W3 ⟨rfl, hE3⟩
    have hE03 : Ext W W3 := hE0.ext hE3
    refine hK _ _ ⟨ClsE.of (by assumption), ?_⟩; clear hK K; try simp only [Act.put, List.setIfInBounds_toArray, List.set_cons_zero, List.set_cons_succ]
    first
    | (refine plan_skip rfl ?_; simp only [Act.put, List.setIfInBounds_toArray, List.set_cons_zero, List.set_cons_succ])
    | (refine plan_pure rfl (fun K hK => quiet_run (v := ?_) (fun W _ => ?_) (hK _ ?_)); rotate_left; (go_simp <;> with_reducible rfl); clear hK K; simp only [Act.put, List.setIfInBounds_toArray, List.set_cons_zero, List.set_cons_succ])
    refine plan_pure rfl (fun K hK => quiet_run (v := ?_) (fun W _ => ?_) (hK _ ?_)); rotate_left; (go_simp <;> with_reducible rfl); clear hK K; simp only [Act.put, List.setIfInBounds_toArray, List.set_cons_zero, List.set_cons_succ]
    refine plan_pure rfl (fun K hK => quiet_move' _ rfl (hK _ ?_)); clear hK K; simp only [Act.put, Act.eval, Array.getD_eq_getD_getElem?, List.getElem?_toArray, List.getElem?_cons_zero, List.getElem?_cons_succ, Option.getD_some, List.setIfInBounds_toArray, List.set_cons_zero, List.set_cons_succ]
    first
    | (refine plan_skip rfl ?_; simp only [Act.put, List.setIfInBounds_toArray, List.set_cons_zero, List.set_cons_succ])
    | (refine plan_pure rfl (fun K hK => quiet_move' _ rfl (hK _ ?_)); clear hK K; simp only [Act.put, Act.eval, Array.getD_eq_getD_getElem?, List.getElem?_toArray, List.getElem?_cons_zero, Option.getD_some, List.setIfInBounds_toArray, List.set_cons_zero, List.set_cons_succ])
    first
    | (refine plan_skip rfl ?_; simp only [Act.put, List.setIfInBounds_toArray, List.set_cons_zero, List.set_cons_succ])
    | (refine plan_pure rfl (fun K hK => quiet_run (v := ?_) (fun W _ => ?_) (hK _ ?_)); rotate_left; (go_simp <;> with_reducible rfl); clear hK K; simp only [Act.put, List.setIfInBounds_toArray, List.set_cons_zero, List.set_cons_succ])
    first
    | (refine plan_skip rfl ?_; simp only [Act.put, List.setIfInBounds_toArray, List.set_cons_zero, List.set_cons_succ])
    | (refine plan_load rfl (fun K hK => quiet_runE (v := ?_) (fun W => ?_) (hK _ ?_)); rotate_left; (go_simp <;> with_reducible rfl); clear hK K; simp only [Act.put, List.setIfInBounds_toArray, List.set_cons_zero, List.set_cons_succ])
    first
    | (refine plan_skip rfl ?_; simp only [Act.put, List.setIfInBounds_toArray, List.set_cons_zero, List.set_cons_succ])
    | (refine plan_does rfl (fun K hK => ?_))
    go_wp2_with fail
    refine (came_any _ b N (HNW.out.ext hE03)).mono ?_
    rintro e W4 ⟨rfl, rfl⟩
    refine hK _ _ ⟨ClsE.of (by assumption), ?_⟩; clear hK K; try simp only [Act.put, List.setIfInBounds_toArray, List.set_cons_zero, List.set_cons_succ]
    first
    | (refine plan_skip rfl ?_; simp only [Act.put, List.setIfInBounds_toArray, List.set_cons_zero, List.set_cons_succ])
    | (refine plan_pure rfl (fun K hK => quiet_run (v := ?_) (fun W _ => ?_) (hK _ ?_)); rotate_left; (go_simp <;> with_reducible rfl); clear hK K; simp only [Act.put, List.setIfInBounds_toArray, List.set_cons_zero, List.set_cons_succ])
    refine plan_pure rfl (fun K hK => quiet_run (v := ?_) (fun W _ => ?_) (hK _ ?_)); rotate_left; (go_simp <;> with_reducible rfl); clear hK K; simp only [Act.put, List.setIfInBounds_toArray, List.set_cons_zero, List.set_cons_succ]
    refine plan_nil ?_; simp only [tailL, List.filterMap_cons, List.filterMap_nil, List.getElem?_toArray, List.getElem?_cons_succ, List.getElem?_cons_zero]; change wpList _ _ _ (_ :: []) _ _
    have HE3 := Lib.hid hE03
    clear cBA zBA lBA cBB zBB lBB cD0 zD0 lD0
    replace BA := Lib.hid (BA.out.ext hE03)
    replace BB := Lib.hid (BB.out.ext hE03)
    have h3w := hE03.size
    have HM3 := Lib.hid (HM.out.keeps hE03 (noB _))
    clear hE03 hE3 hE0 D0
    obtain ⟨cBA, zBA⟩ := BA.out.reads
    have lBA := BA.out.lt
    obtain ⟨cBB, zBB⟩ := BB.out.reads
    have lBB := BB.out.lt
    go_wp2_with fail
    refine NoPanic.ok ?_
    clear cBA zBA lBA cBB zBB lBB
    gi_wp2_with fail
    refine leaves_marks [w7.heap.size] _ (by simp) ?_ ?_
    · intro D hD
      obtain rfl : D = w7.heap.size := by simpa using hD
      exact HM3.out.keeps (S := OneB (w.heap.size + 1)) ((Keeps.refl _ _).setOne _ _) (by unfold OneB; omega)
    · intro w' hk
      have q0 : Box w' (w.heap.size + 1) 4 [.bool true] := by
        refine Box.keeps (w := _) ?_ hk (by simp; omega)
        exact BB.out.set 0 (.bool true)
      refine ⟨.bool true, ?_, rfl, ?_⟩
      · simp [results, Try.results28, go_sem, q0.reads.1]
      · have h1 := ((HE.out.then HK.out (fun i hi h => by unfold OneB at h; omega)).ext HE3.out).then ((Keeps.refl (OneB (w.heap.size + 1)) W3).setOne 0 (.bool true)) (fun i hi h => by unfold OneB at h; omega)
        exact h1.then hk (fun i hi h => by simp at h; omega)
end Go.Proofs.Ytdiogipdcpiffaa
