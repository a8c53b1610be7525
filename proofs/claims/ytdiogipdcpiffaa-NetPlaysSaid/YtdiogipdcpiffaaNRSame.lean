/- Which nets of the document are the same. Conditions: they lie as 'RefX' says. -/
import Derived.Test.YtdiogipdcpiffaaNSame
set_option linter.unusedVariables false
set_option maxHeartbeats 400000
set_option maxRecDepth 10000
namespace Go.Proofs.Ytdiogipdcpiffaa
open Go.RowKit

theorem RefV.pairs {w : World} {A : Nat → Prop} {N : NA} {z0 z1 z2 z3 : Value} {a' : Option Addr} {n' c' : Nat} (h : RefV w A (.agg #[z0, z1, z2, z3, .slice a' n' c']) N) : PairsV w A (.slice a' n' c') N.downs := by
  obtain ⟨a1, c1, a2, c2, he, -, hq⟩ := h.args
  simp only [Value.agg.injEq, Array.mk.injEq, List.cons.injEq, Value.slice.injEq] at he
  obtain ⟨-, -, -, -, ⟨rfl, rfl, rfl⟩, -⟩ := he
  exact hq
theorem rsame_head {M M' : Nat → Prop} (w : World) (v v' : Value) (N N' : NA) (h : RefX w M v N) (h' : RefX w M' v' N') (hne : ¬ (N.ends = N'.ends ∧ N.most = N'.most ∧ N.came = N'.came ∧ N.l.length = N'.l.length ∧ N.downs.length = N'.downs.length)) :
    Calls Try.prog 29 #[v, v'] w (SamePost w N N') := by
  have HF : Hid (¬ Alike N N') := Lib.hid (fun hh => hne ⟨hh.1, hh.2.1, hh.2.2.1, by rw [hh.2.2.2.1], by
    have := hh.2.2.2.2
    unfold sameD at this
    rw [Bool.and_eq_true] at this
    exact of_decide_eq_true this.1⟩)
  have HR := Lib.hid h
  have HR' := Lib.hid h'
  obtain ⟨a, c, a', c', rfl⟩ := h.len
  obtain ⟨d, f, d', f', rfl⟩ := h'.len
  clear h h'
  have hE : Hid (Ext w ((w.alloc (Obj.cells #[.int .i64 (N.ends : Int), .int .i64 (N.most : Int), .int .i64 (N.came : Int), .slice a N.l.length c, .slice a' N.downs.length c'] 41)).alloc (Obj.cells #[.int .i64 (N'.ends : Int), .int .i64 (N'.most : Int), .int .i64 (N'.came : Int), .slice d N'.l.length f, .slice d' N'.downs.length f'] 41))) := Lib.hid (((Keeps.refl _ _).alloc _).alloc _)
  by_cases he : N.ends = N'.ends
  · have ke : ((N.ends : Int) != (N'.ends : Int)) = false := by rw [he]; simp
    by_cases hm : N.most = N'.most
    · have km : ((N.most : Int) != (N'.most : Int)) = false := by rw [hm]; simp
      by_cases hc : N.came = N'.came
      · have kc : ((N.came : Int) != (N'.came : Int)) = false := by rw [hc]; simp
        by_cases hl : N.l.length = N'.l.length
        · have kl : ((N.l.length : Int) != (N'.l.length : Int)) = false := by rw [hl]; simp
          have hdn : ¬ N.downs.length = N'.downs.length := fun h => hne ⟨he, hm, hc, hl, h⟩
          have kd : ((N.downs.length : Int) != (N'.downs.length : Int)) = true := by rw [bne_iff_ne]; omega
          clear hne he hm hc hl hdn
          go_enter Try.func29, Try.ntmps29
          go_wp2_with fail
          go_ret
          exact ⟨false, rfl, ⟨fun h => (by cases h), fun h => absurd h HF.out⟩, hE.out⟩
        · have kl : ((N.l.length : Int) != (N'.l.length : Int)) = true := by rw [bne_iff_ne]; omega
          clear hne he hm hc hl
          go_enter Try.func29, Try.ntmps29
          go_wp2_with fail
          go_ret
          exact ⟨false, rfl, ⟨fun h => (by cases h), fun h => absurd h HF.out⟩, hE.out⟩
      · have kc : ((N.came : Int) != (N'.came : Int)) = true := by rw [bne_iff_ne]; omega
        clear hne he hm hc
        go_enter Try.func29, Try.ntmps29
        go_wp2_with fail
        go_ret
        exact ⟨false, rfl, ⟨fun h => (by cases h), fun h => absurd h HF.out⟩, hE.out⟩
    · have km : ((N.most : Int) != (N'.most : Int)) = true := by rw [bne_iff_ne]; omega
      clear hne he hm
      go_enter Try.func29, Try.ntmps29
      go_wp2_with fail
      go_ret
      exact ⟨false, rfl, ⟨fun h => (by cases h), fun h => absurd h HF.out⟩, hE.out⟩
  · have ke : ((N.ends : Int) != (N'.ends : Int)) = true := by rw [bne_iff_ne]; omega
    clear hne he
    go_enter Try.func29, Try.ntmps29
    go_wp2_with fail
    go_ret
    exact ⟨false, rfl, ⟨fun h => (by cases h), fun h => absurd h HF.out⟩, hE.out⟩
set_option maxHeartbeats 4000000 in
theorem rsame_same {M M' : Nat → Prop} (w : World) (v v' : Value) (N N' : NA) (h : RefX w M v N) (h' : RefX w M' v' N') (hl4 : N.l.length ≤ 4096) (hd4 : N.downs.length ≤ 10000) (he : N.ends = N'.ends) (hm : N.most = N'.most) (hc : N.came = N'.came) (hl : N.l.length = N'.l.length) (hdn : N.downs.length = N'.downs.length) :
    Calls Try.prog 29 #[v, v'] w (SamePost w N N') := by
  have HX : Hid (Alike N N' ↔ N.l = N'.l ∧ ∀ p ∈ N.downs, p ∈ N'.downs) := Lib.hid (by
    unfold Alike sameD
    rw [Bool.and_eq_true, List.all_eq_true]
    constructor
    · rintro ⟨-, -, -, h1, -, h2⟩
      exact ⟨h1, fun p hp => of_decide_eq_true (h2 p hp)⟩
    · rintro ⟨h1, h2⟩
      exact ⟨he, hm, hc, h1, decide_eq_true hdn, fun p hp => decide_eq_true (h2 p hp)⟩)
  have ke : ((N.ends : Int) != (N'.ends : Int)) = false := by rw [he]; simp
  have km : ((N.most : Int) != (N'.most : Int)) = false := by rw [hm]; simp
  have kc : ((N.came : Int) != (N'.came : Int)) = false := by rw [hc]; simp
  have kl : ((N.l.length : Int) != (N'.l.length : Int)) = false := by rw [hl]; simp
  have kd : ((N.downs.length : Int) != (N'.downs.length : Int)) = false := by rw [hdn]; simp
  have HLN := Lib.hid hl
  have HDN := Lib.hid hdn
  have HR := Lib.hid h
  have HR' := Lib.hid h'
  obtain ⟨a, c, a', c', rfl⟩ := h.len
  obtain ⟨d, f, d', f', rfl⟩ := h'.len
  clear h h'
  clear he hm hc hl hdn
  go_enter Try.func29, Try.ntmps29
  go_wp2_with fail
  have bx0 := ((Box.new w 41 [.int .i64 (N.ends : Int), .int .i64 (N.most : Int), .int .i64 (N.came : Int), .slice a N.l.length c, .slice a' N.downs.length c']).alloc (Obj.cells #[.int .i64 (N'.ends : Int), .int .i64 (N'.most : Int), .int .i64 (N'.came : Int), .slice d N'.l.length f, .slice d' N'.downs.length f'] 41))
  have bx1 := (Box.new (w.alloc (Obj.cells #[.int .i64 (N.ends : Int), .int .i64 (N.most : Int), .int .i64 (N.came : Int), .slice a N.l.length c, .slice a' N.downs.length c'] 41)) 41 [.int .i64 (N'.ends : Int), .int .i64 (N'.most : Int), .int .i64 (N'.came : Int), .slice d N'.l.length f, .slice d' N'.downs.length f'])
  have ex : Ext w ((w.alloc (Obj.cells #[.int .i64 (N.ends : Int), .int .i64 (N.most : Int), .int .i64 (N.came : Int), .slice a N.l.length c, .slice a' N.downs.length c'] 41)).alloc (Obj.cells #[.int .i64 (N'.ends : Int), .int .i64 (N'.most : Int), .int .i64 (N'.came : Int), .slice d N'.l.length f, .slice d' N'.downs.length f'] 41)) := (((Keeps.refl NoB w).alloc _).alloc _)
  have sx : ((w.alloc (Obj.cells #[.int .i64 (N.ends : Int), .int .i64 (N.most : Int), .int .i64 (N.came : Int), .slice a N.l.length c, .slice a' N.downs.length c'] 41)).alloc (Obj.cells #[.int .i64 (N'.ends : Int), .int .i64 (N'.most : Int), .int .i64 (N'.came : Int), .slice d N'.l.length f, .slice d' N'.downs.length f'] 41)).heap.size = w.heap.size + 2 := by simp
  simp only [World.size_alloc] at bx1
  generalize ((w.alloc (Obj.cells #[.int .i64 (N.ends : Int), .int .i64 (N.most : Int), .int .i64 (N.came : Int), .slice a N.l.length c, .slice a' N.downs.length c'] 41)).alloc (Obj.cells #[.int .i64 (N'.ends : Int), .int .i64 (N'.most : Int), .int .i64 (N'.came : Int), .slice d N'.l.length f, .slice d' N'.downs.length f'] 41)) = w0 at bx0 bx1 ex sx ⊢
  have Sx := Lib.hid sx
  clear sx
  clear ke km kc kl kd
  have B0 := Lib.hid bx0
  have B1 := Lib.hid bx1
  have HE := Lib.hid ex
  clear bx0 bx1 ex
  go_loopw [5] (fun i wr => ∃ k : Nat, k ≤ N.l.length ∧ i = .int .i64 k ∧ Hid (N.l.take k = N'.l.take k) ∧ Hid (Ext w wr) ∧ Hid (Box wr w.heap.size 41 [.int .i64 (N.ends : Int), .int .i64 (N.most : Int), .int .i64 (N.came : Int), .slice a N.l.length c, .slice a' N.downs.length c']) ∧ Hid (Box wr (w.heap.size + 1) 41 [.int .i64 (N'.ends : Int), .int .i64 (N'.most : Int), .int .i64 (N'.came : Int), .slice d N'.l.length f, .slice d' N'.downs.length f'])) (fun i _ => N.l.length - (intOf i).toNat)
  case atStart => exact ⟨0, Nat.zero_le _, rfl, Lib.hid (by simp), HE, B0, B1⟩
  case round =>
    clear HE B0 B1
    obtain ⟨k, hk, rfl, hh, HE, B0, B1⟩ := hrel
    by_cases hlt : k < N.l.length
    · have hlt' : k < N'.l.length := by have := HLN.out; omega
      obtain ⟨-, g1⟩ := (HR.out.ext HE.out).parAt
      obtain ⟨A1, b1, o1, rfl, hc1, hb1, hp1⟩ := g1 k hlt
      obtain ⟨-, g2⟩ := (HR'.out.ext HE.out).parAt
      obtain ⟨A2, b2, o2, rfl, hc2, hb2, hp2⟩ := g2 k hlt'
      have hs1 : N.l.take (k + 1) = N.l.take k ++ [N.l[k]] := List.take_succ_eq_append_getElem _
      have hs2 : N'.l.take (k + 1) = N'.l.take k ++ [N'.l[k]] := List.take_succ_eq_append_getElem _
      generalize N.l[k] = x at hp1 hs1
      generalize N'.l[k] = y at hp2 hs2
      obtain ⟨i0, i1, i2, d1, e1, i3, i4⟩ := hp1.reads
      obtain ⟨j0, j1, j2, d2, e2, j3, j4⟩ := hp2.reads
      have HS1 := Lib.hid hs1
      have HS2 := Lib.hid hs2
      have HI := Lib.hid i4
      have HJ := Lib.hid j4
      have hk6 : k ≤ 4096 := by omega
      clear g1 g2 hs1 hs2 i4 j4 hp1 hp2
      obtain ⟨cB0, zB0⟩ := B0.out.reads
      have lB0 := B0.out.lt
      obtain ⟨cB1, zB1⟩ := B1.out.reads
      have lB1 := B1.out.lt
      go_wp2_with fail
      have hE0 : Keeps NoB wr wr.drew := (Keeps.refl _ _).drew
      refine wp_region_plan [(0, 0), (3, 1), (0, 2), (0, 3), (3, 4), (0, 5), (3, 6), (0, 7), (0, 8), (3, 9)] [] [10, 11] [10, 11] (ClsE wr) (by kernel_rfl) (by kernel_rfl) (by kernel_rfl) rfl rfl (ClsE.of hE0) (fun _ _ _ d _ h => by cases d <;> exact h) ?_; simp only [planL, List.getElem?_toArray, List.getElem?_cons_succ, List.getElem?_cons_zero]
      refine plan_pure rfl (fun K hK => quiet_run (v := ?_) (fun W _ => ?_) (hK _ ?_)); rotate_left; (go_simp <;> with_reducible rfl); clear hK K; simp only [Act.put, List.setIfInBounds_toArray, List.set_cons_zero, List.set_cons_succ]
      refine plan_exact rfl (fun K hK => quiet_runX (v := ?_) ?_ (hK _ ?_)); rotate_left; (go_simp <;> with_reducible rfl); clear hK K; simp only [Act.put, List.setIfInBounds_toArray, List.set_cons_zero, List.set_cons_succ]
      refine plan_pure rfl (fun K hK => quiet_move' _ rfl (hK _ ?_)); clear hK K; simp only [Act.put, Act.eval, Array.getD_eq_getD_getElem?, List.getElem?_toArray, List.getElem?_cons_zero, List.getElem?_cons_succ, Option.getD_some, List.setIfInBounds_toArray, List.set_cons_zero, List.set_cons_succ]
      refine plan_pure rfl (fun K hK => quiet_run (v := ?_) (fun W _ => ?_) (hK _ ?_)); rotate_left; (go_simp <;> with_reducible rfl); clear hK K; simp only [Act.put, List.setIfInBounds_toArray, List.set_cons_zero, List.set_cons_succ]
      refine plan_exact rfl (fun K hK => quiet_runX (v := ?_) ?_ (hK _ ?_)); rotate_left; (go_simp <;> with_reducible rfl); clear hK K; simp only [Act.put, List.setIfInBounds_toArray, List.set_cons_zero, List.set_cons_succ]
      refine plan_pure rfl (fun K hK => quiet_run (v := ?_) (fun W _ => ?_) (hK _ ?_)); rotate_left; (go_simp <;> with_reducible rfl); clear hK K; simp only [Act.put, List.setIfInBounds_toArray, List.set_cons_zero, List.set_cons_succ]
      refine plan_exact rfl (fun K hK => quiet_runX (v := ?_) ?_ (hK _ ?_)); rotate_left; (go_simp <;> with_reducible rfl); clear hK K; simp only [Act.put, List.setIfInBounds_toArray, List.set_cons_zero, List.set_cons_succ]
      refine plan_pure rfl (fun K hK => quiet_move' _ rfl (hK _ ?_)); clear hK K; simp only [Act.put, Act.eval, Array.getD_eq_getD_getElem?, List.getElem?_toArray, List.getElem?_cons_zero, List.getElem?_cons_succ, Option.getD_some, List.setIfInBounds_toArray, List.set_cons_zero, List.set_cons_succ]
      refine plan_pure rfl (fun K hK => quiet_run (v := ?_) (fun W _ => ?_) (hK _ ?_)); rotate_left; (go_simp <;> with_reducible rfl); clear hK K; simp only [Act.put, List.setIfInBounds_toArray, List.set_cons_zero, List.set_cons_succ]
      refine plan_exact rfl (fun K hK => quiet_runX (v := ?_) ?_ (hK _ ?_)); rotate_left; (go_simp <;> with_reducible rfl); clear hK K; simp only [Act.put, List.setIfInBounds_toArray, List.set_cons_zero, List.set_cons_succ]
      refine plan_nil ?_; simp only [tailL, List.filterMap_cons, List.filterMap_nil, List.getElem?_toArray, List.getElem?_cons_succ, List.getElem?_cons_zero]; change wpList _ _ _ (_ :: _ :: []) _ _
      go_wp2_with fail
      refine (same_par _ x y _ _ ⟨_, rfl, HI.out.ext hE0⟩ ⟨_, rfl, HJ.out.ext hE0⟩).mono ?_
      rintro e w3 ⟨rfl, hE3⟩
      have hE03 := hE0.ext hE3
      have HE3 := Lib.hid hE03
      clear cB0 zB0 lB0 cB1 zB1 lB1
      clear hE03 hE3 hE0 i0 i1 i2 i3 j0 j1 j2 j3
      cases hxy : sameP x y with
      | true =>
        have hxy' := sameP_eq hxy
        have HT : Hid (N.l.take (k + 1) = N'.l.take (k + 1)) := Lib.hid (by rw [HS1.out, HS2.out, hh.out, hxy'])
        clear hxy hxy'
        replace HE := Lib.hid (HE.out.ext HE3.out)
        replace B0 := Lib.hid (B0.out.ext HE3.out)
        replace B1 := Lib.hid (B1.out.ext HE3.out)
        go_wp2_with fail
        go_roundw
        case rel => exact ⟨k + 1, by omega, by go_num, HT, HE, B0, B1⟩
        case measure => simp [intOf]; omega
      | false =>
        have HF : Hid (¬ N.l = N'.l) := by
          refine Lib.hid (fun h => ?_)
          have h3 : N.l.take k ++ [x] = N.l.take k ++ [y] := by
            rw [← HS1.out, h, HS2.out]
          have h4 := List.append_cancel_left h3
          simp only [List.cons.injEq, and_true] at h4
          rw [h4, sameP_self] at hxy
          cases hxy
        clear hxy
        go_wp2_with fail
        go_ret
        exact ⟨false, rfl, ⟨fun h => (by cases h), fun h => absurd (HX.out.1 h).1 HF.out⟩, HE.out.ext HE3.out⟩
    · have HT : Hid (N.l = N'.l) := by
        have := hh.out
        rw [List.take_of_length_le (by omega), List.take_of_length_le (by have := HLN.out; omega)] at this
        exact Lib.hid this
      clear hh
      obtain ⟨cB0, zB0⟩ := B0.out.reads
      have lB0 := B0.out.lt
      obtain ⟨cB1, zB1⟩ := B1.out.reads
      have lB1 := B1.out.lt
      go_wp2_with fail
      clear cB0 zB0 lB0 cB1 zB1 lB1
      obtain ⟨A1, hv1, hA1⟩ := HR.out
      obtain ⟨A2, hv2, hA2⟩ := HR'.out
      have HV2 := Lib.hid hv2
      have HA2 := Lib.hid hA2
      have HV1 := Lib.hid hv1
      have HA1 := Lib.hid hA1
      clear hv1 hv2 hA1 hA2
      have hd' : N'.downs.length ≤ 10000 := by have := HDN.out; omega
      go_loopw [6] (fun i wr => ∃ k : Nat, k ≤ N.downs.length ∧ i = .int .i64 k ∧ Hid (∀ p ∈ N.downs.take k, p ∈ N'.downs) ∧ Hid (Ext w wr) ∧ Hid (Box wr w.heap.size 41 [.int .i64 (N.ends : Int), .int .i64 (N.most : Int), .int .i64 (N.came : Int), .slice a N.l.length c, .slice a' N.downs.length c']) ∧ Hid (Box wr (w.heap.size + 1) 41 [.int .i64 (N'.ends : Int), .int .i64 (N'.most : Int), .int .i64 (N'.came : Int), .slice d N'.l.length f, .slice d' N'.downs.length f'])) (fun i _ => N.downs.length - (intOf i).toNat)
      case atStart => exact ⟨0, Nat.zero_le _, rfl, Lib.hid (by simp), HE, B0, B1⟩
      case round =>
        clear HE B0 B1 hk hlt
        obtain ⟨k, hk, rfl, hh, HE, B0, B1⟩ := hrel
        by_cases hlt : k < N.downs.length
        · obtain ⟨-, g1⟩ := (HV1.out.ext HE.out).pairs.at
          obtain ⟨b1, o1, rfl, hc1, hb1, j1, j2⟩ := g1 k hlt
          have hbl := (HA1.out b1 hb1).1
          have hbw := HE.out.size
          have hts : N.downs.take (k + 1) = N.downs.take k ++ [N.downs[k]] := List.take_succ_eq_append_getElem hlt
          have hmem : N.downs[k] ∈ N.downs := List.getElem_mem hlt
          generalize N.downs[k] = q at hts j1 j2 hmem
          obtain ⟨qf, qt⟩ := q
          dsimp only at j1 j2
          have HTS := Lib.hid hts
          have HMM := Lib.hid hmem
          have hk6 : k ≤ 10000 := by omega
          clear g1 hts hmem
          obtain ⟨cB0, zB0⟩ := B0.out.reads
          have lB0 := B0.out.lt
          obtain ⟨cB1, zB1⟩ := B1.out.reads
          have lB1 := B1.out.lt
          go_wp2_with fail
          have hE0 : Keeps NoB wr wr.drew := (Keeps.refl _ _).drew
          refine wp_region_plan [(3, 0), (0, 1), (3, 2), (0, 3), (0, 4), (0, 5), (3, 6), (0, 7), (3, 8), (0, 9), (0, 10), (0, 11), (3, 12)] [] [13, 14] [13, 14] (ClsE wr) (by kernel_rfl) (by kernel_rfl) (by kernel_rfl) rfl rfl (ClsE.of hE0) (fun _ _ _ d _ h => by cases d <;> exact h) ?_; simp only [planL, List.getElem?_toArray, List.getElem?_cons_succ, List.getElem?_cons_zero]
          refine plan_exact rfl (fun K hK => quiet_runX (v := ?_) ?_ (hK _ ?_)); rotate_left; (go_simp <;> with_reducible rfl); clear hK K; simp only [Act.put, List.setIfInBounds_toArray, List.set_cons_zero, List.set_cons_succ]
          refine plan_pure rfl (fun K hK => quiet_run (v := ?_) (fun W _ => ?_) (hK _ ?_)); rotate_left; (go_simp <;> with_reducible rfl); clear hK K; simp only [Act.put, List.setIfInBounds_toArray, List.set_cons_zero, List.set_cons_succ]
          refine plan_exact rfl (fun K hK => quiet_runX (v := ?_) ?_ (hK _ ?_)); rotate_left; (go_simp <;> with_reducible rfl); clear hK K; simp only [Act.put, List.setIfInBounds_toArray, List.set_cons_zero, List.set_cons_succ]
          refine plan_pure rfl (fun K hK => quiet_move' _ rfl (hK _ ?_)); clear hK K; simp only [Act.put, Act.eval, Array.getD_eq_getD_getElem?, List.getElem?_toArray, List.getElem?_cons_zero, List.getElem?_cons_succ, Option.getD_some, List.setIfInBounds_toArray, List.set_cons_zero, List.set_cons_succ]
          refine plan_pure rfl (fun K hK => quiet_run (v := ?_) (fun W _ => ?_) (hK _ ?_)); rotate_left; (go_simp <;> with_reducible rfl); clear hK K; simp only [Act.put, List.setIfInBounds_toArray, List.set_cons_zero, List.set_cons_succ]
          refine plan_pure rfl (fun K hK => quiet_run (v := ?_) (fun W _ => ?_) (hK _ ?_)); rotate_left; (go_simp <;> with_reducible rfl); clear hK K; simp only [Act.put, List.setIfInBounds_toArray, List.set_cons_zero, List.set_cons_succ]
          refine plan_exact rfl (fun K hK => quiet_runX (v := ?_) ?_ (hK _ ?_)); rotate_left; (go_simp <;> with_reducible rfl); clear hK K; simp only [Act.put, List.setIfInBounds_toArray, List.set_cons_zero, List.set_cons_succ]
          refine plan_pure rfl (fun K hK => quiet_run (v := ?_) (fun W _ => ?_) (hK _ ?_)); rotate_left; (go_simp <;> with_reducible rfl); clear hK K; simp only [Act.put, List.setIfInBounds_toArray, List.set_cons_zero, List.set_cons_succ]
          refine plan_exact rfl (fun K hK => quiet_runX (v := ?_) ?_ (hK _ ?_)); rotate_left; (go_simp <;> with_reducible rfl); clear hK K; simp only [Act.put, List.setIfInBounds_toArray, List.set_cons_zero, List.set_cons_succ]
          refine plan_pure rfl (fun K hK => quiet_move' _ rfl (hK _ ?_)); clear hK K; simp only [Act.put, Act.eval, Array.getD_eq_getD_getElem?, List.getElem?_toArray, List.getElem?_cons_zero, List.getElem?_cons_succ, Option.getD_some, List.setIfInBounds_toArray, List.set_cons_zero, List.set_cons_succ]
          refine plan_pure rfl (fun K hK => quiet_run (v := ?_) (fun W _ => ?_) (hK _ ?_)); rotate_left; (go_simp <;> with_reducible rfl); clear hK K; simp only [Act.put, List.setIfInBounds_toArray, List.set_cons_zero, List.set_cons_succ]
          refine plan_pure rfl (fun K hK => quiet_run (v := ?_) (fun W _ => ?_) (hK _ ?_)); rotate_left; (go_simp <;> with_reducible rfl); clear hK K; simp only [Act.put, List.setIfInBounds_toArray, List.set_cons_zero, List.set_cons_succ]
          refine plan_exact rfl (fun K hK => quiet_runX (v := ?_) ?_ (hK _ ?_)); rotate_left; (go_simp <;> with_reducible rfl); clear hK K; simp only [Act.put, List.setIfInBounds_toArray, List.set_cons_zero, List.set_cons_succ]
          refine plan_nil ?_; simp only [tailL, List.filterMap_cons, List.filterMap_nil, List.getElem?_toArray, List.getElem?_cons_succ, List.getElem?_cons_zero]; change wpList _ _ _ (_ :: _ :: []) _ _
          go_wp2_with fail
          refine (risdown_any wr.drew _ N' qf qt ((HV2.out.ext HE.out).ext hE0) hd' (fun k hk => Nat.lt_of_lt_of_le (HA2.out k hk).1 (by have := HE.out.size; exact this))).mono ?_
          rintro e w3 ⟨rfl, hE3⟩
          have hE03 := hE0.ext hE3
          have HE3 := Lib.hid hE03
          clear cB0 zB0 lB0 cB1 zB1 lB1
          clear hE03 hE3 hE0 j1 j2
          by_cases hd : (qf, qt) ∈ N'.downs
          · have HT2 : Hid (∀ p ∈ N.downs.take (k + 1), p ∈ N'.downs) := Lib.hid (fun p hp => by
              rw [HTS.out, List.mem_append, List.mem_singleton] at hp
              rcases hp with hp | hp
              · exact hh.out p hp
              · rw [hp]; exact hd)
            rw [decide_eq_true hd]
            replace HE := Lib.hid (HE.out.ext HE3.out)
            replace B0 := Lib.hid (B0.out.ext HE3.out)
            replace B1 := Lib.hid (B1.out.ext HE3.out)
            clear hd
            go_wp2_with fail
            go_roundw
            case rel => exact ⟨k + 1, by omega, by go_num, HT2, HE, B0, B1⟩
            case measure => simp [intOf]; omega
          · rw [decide_eq_false hd]
            have HF := Lib.hid hd
            clear hd
            go_wp2_with fail
            go_ret
            exact ⟨false, rfl, ⟨fun h => (by cases h), fun h => absurd ((HX.out.1 h).2 _ HMM.out) HF.out⟩, HE.out.ext HE3.out⟩
        · have HQ : Hid (∀ p ∈ N.downs, p ∈ N'.downs) := by
            have := hh.out
            rw [List.take_of_length_le (by omega)] at this
            exact Lib.hid this
          clear hh
          obtain ⟨cB0, zB0⟩ := B0.out.reads
          have lB0 := B0.out.lt
          obtain ⟨cB1, zB1⟩ := B1.out.reads
          have lB1 := B1.out.lt
          go_wp2_with fail
          go_ret
          exact ⟨true, rfl, ⟨fun _ => HX.out.2 ⟨HT.out, HQ.out⟩, fun _ => rfl⟩, HE.out⟩
theorem rsame_any {M M' : Nat → Prop} (w : World) (v v' : Value) (N N' : NA) (h : RefX w M v N) (h' : RefX w M' v' N') (hl4 : N.l.length ≤ 4096) (hd4 : N.downs.length ≤ 10000) :
    Calls Try.prog 29 #[v, v'] w (SamePost w N N') := by
  by_cases hne : N.ends = N'.ends ∧ N.most = N'.most ∧ N.came = N'.came ∧ N.l.length = N'.l.length ∧ N.downs.length = N'.downs.length
  · exact rsame_same w v v' N N' h h' hl4 hd4 hne.1 hne.2.1 hne.2.2.1 hne.2.2.2.1 hne.2.2.2.2
  · exact rsame_head w v v' N N' h h' hne
end Go.Proofs.Ytdiogipdcpiffaa
