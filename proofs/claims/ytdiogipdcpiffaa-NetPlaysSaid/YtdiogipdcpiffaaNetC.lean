/- The net's own functions, each by its contract: the messages on a link, and the picked one. Conditions: the net lies as 'NetX' says. -/
import Derived.Test.YtdiogipdcpiffaaNetB
set_option linter.unusedVariables false
set_option maxHeartbeats 400000
set_option maxRecDepth 10000
namespace Go.Proofs.Ytdiogipdcpiffaa
open Go.RowKit

theorem infoInt : (Try.prog.info? 3).map (fun i => (i.zero, i.size, i.bytes)) = some (some (.int .i64 0), 1, 8) := by kernel_rfl
def intV (k : Nat) : Value := .int .i64 (k : Int)
/-- append(l, x) of ints -/
theorem append_int (w : World) (base : Nat) (v : Value) (l : List Nat) (ty : TypeId) (hw : Win w base 1 v l.length (l.map intV)) (x q : Nat) (hq : Box w q 3 [intV x]) (hl : l.length ≤ 1000000) (hb : base ≤ w.heap.size) :
    ∃ v' w', (Builtin.append_ #[53, 53] ty #[v, .slice (some ⟨q, 0, none⟩) 1 1]).run Try.prog w = .ok v' w' ∧ Win w' base 1 v' (l ++ [x]).length ((l ++ [x]).map intV) ∧ Keeps (Own v) w w' ∧ (v'.ownBlock = v.ownBlock ∨ v'.ownBlock = some w.heap.size) := by
  obtain ⟨i0, hi, hz0, hz1, hz2⟩ := info_parts infoInt
  obtain ⟨v', w', h1, h2, h3, h4⟩ := run_append_win (P := Try.prog) w base 53 53 ty 3 i0 _ 1 8 Try.underlying53 hi hz0 hz1 hz2 rfl v l.length (l.map intV) hw
    (.slice (some ⟨q, 0, none⟩) 1 1) 1 [intV x] ((Box.src hq 1 1).toSrc Try.underlying53 rfl (by intro u hu; simp only [List.mem_singleton] at hu; subst hu; rfl)) (by simp [maxLen]; omega) (by omega) hb
  exact ⟨v', w', h1, by rw [List.length_append, List.map_append]; exact h2, h3, h4⟩
def onTo (f t : Int) (l : List Pc) (k : Nat) : List Nat := (List.range k).filter fun i => match l[i]? with | some p => NA.hit f t p | none => false
theorem onTo_succ (f t : Int) (l : List Pc) (k : Nat) (h : k < l.length) : onTo f t l (k + 1) = onTo f t l k ++ if NA.hit f t l[k] then [k] else [] := by
  unfold onTo
  rw [List.range_succ, List.filter_append, List.filter_cons, List.getElem?_eq_getElem h]
  simp only [List.filter_nil]
theorem onTo_le (f t : Int) (l : List Pc) (k : Nat) : (onTo f t l k).length ≤ k := by
  have := List.length_filter_le (fun i => match l[i]? with | some p => NA.hit f t p | none => false) (List.range k)
  simpa [onTo] using this
theorem onTo_lt (f t : Int) (l : List Pc) (k : Nat) : ∀ i ∈ onTo f t l k, i < k := fun i hi => by
  have := (List.mem_filter.1 hi).1
  simpa using this
set_option maxHeartbeats 1000000 in
theorem places_any {A : Nat → Prop} (w : World) (q r : Nat) (f t : Int) (v : Value) (l : List Pc) (h : ParsV w A v l) (hl : l.length ≤ 4096) (hq : Box w q 3 [.int .i64 f]) (hr : Box w r 3 [.int .i64 t]) (hA : ∀ k, A k → k < w.heap.size) :
    Calls Try.prog 60 #[v, .func (.func 62) #[] #[.pointer (some ⟨q, 0, none⟩), .pointer (some ⟨r, 0, none⟩)]] w fun e w' =>
      ∃ v', e = .returned v' ∧ Win w' w.heap.size 1 v' (onTo f t l l.length).length ((onTo f t l l.length).map intV) ∧ Ext w w' := by
  obtain ⟨a, c, rfl⟩ := h.len
  have HV := Lib.hid h
  have HQ := Lib.hid hq
  have HR := Lib.hid hr
  have HA := Lib.hid hA
  clear h hq hr hA
  go_enter Try.func60, Try.ntmps60
  go_wp2_with fail
  go_loopw [4, 9] (fun o i wr => ∃ k : Nat, k ≤ l.length ∧ i = .int .i64 k ∧ Hid (Win wr w.heap.size 1 o (onTo f t l k).length ((onTo f t l k).map intV)) ∧ Hid (Ext w wr)) (fun _ i _ => l.length - (intOf i).toNat)
  case atStart => exact ⟨0, Nat.zero_le _, rfl, Lib.hid (Win.nil _ _ _), Lib.hid (Keeps.refl _ _)⟩
  case round =>
    obtain ⟨k, hk, rfl, hwin, he⟩ := hrel
    by_cases hlt : k < l.length
    · obtain ⟨-, hat⟩ := HV.out.at
      obtain ⟨b, o, rfl, hc, hAb, hpar⟩ := hat k hlt
      have hpar' := hpar.keeps he.out (noB _) (fun _ _ => noB _)
      obtain ⟨p, hp⟩ : ∃ p, l[k] = p := ⟨_, rfl⟩
      rw [hp] at hpar hpar'
      have HP := Lib.hid hp
      obtain ⟨i0, i1, i2, a3, n3, i3, i4⟩ := hpar'.reads
      have hbl : b < wr.heap.size := World.block_lt_of_cell? _ _ i0
      have HB := Lib.hid i4
      have hwl := HA.out b hAb
      have hwr := he.out.size
      clear hat hpar hpar' hp i4
      go_wp2_with fail
      have bx0 := (Box.new wr 81 [.int .i64 (p.num : Int), .int .i64 p.src, .int .i64 p.dst, .slice a3 p.bytes.length n3])
      have ex : Ext wr (wr.alloc (Obj.cells #[.int .i64 (p.num : Int), .int .i64 p.src, .int .i64 p.dst, .slice a3 p.bytes.length n3] 81)) := ((Keeps.refl NoB wr).alloc _)
      have sx : (wr.alloc (Obj.cells #[.int .i64 (p.num : Int), .int .i64 p.src, .int .i64 p.dst, .slice a3 p.bytes.length n3] 81)).heap.size = wr.heap.size + 1 := by simp
      generalize (wr.alloc (Obj.cells #[.int .i64 (p.num : Int), .int .i64 p.src, .int .i64 p.dst, .slice a3 p.bytes.length n3] 81)) = w0 at bx0 ex sx ⊢
      have Sx := Lib.hid sx
      clear sx
      have HX := Lib.hid ex
      have h0 := ex.size
      clear bx0 ex
      refine (on1_any (A := A) w0 q r f t _ p ⟨_, rfl, HB.out.ext HX.out⟩ ((HQ.out.ext he.out).ext HX.out) ((HR.out.ext he.out).ext HX.out)).mono ?_
      rintro e w1 ⟨rfl, hE⟩
      have HE1 := Lib.hid ((he.out.ext HX.out).ext hE)
      have HW1 := Lib.hid ((hwin.out.ext HX.out).ext hE)
      have h1 := hE.size
      have hs := onTo_succ f t l k hlt
      rw [HP.out] at hs
      clear hE i0 i1 i2 i3
      cases hh : NA.hit f t p with
      | false =>
        rw [hh] at hs
        simp only [Bool.false_eq_true, if_false, List.append_nil] at hs
        have HS := Lib.hid hs
        clear hs hh
        go_wp2_with fail
        go_roundw
        case rel => exact ⟨k + 1, by omega, by go_num, by rw [HS.out]; exact HW1, HE1⟩
        case measure => simp [intOf]; omega
      | true =>
        rw [hh] at hs
        simp only [if_true] at hs
        have HS := Lib.hid hs
        have hle := onTo_le f t l k
        clear hs hh
        go_wp2_with (at_builtin; refine standing ?_)
        have by0 := (Box.new w1 3 [.int .i64 (k : Int)])
        have ey : Ext w1 (w1.alloc (Obj.cells #[.int .i64 (k : Int)] 3)) := ((Keeps.refl NoB w1).alloc _)
        have sy : (w1.alloc (Obj.cells #[.int .i64 (k : Int)] 3)).heap.size = w1.heap.size + 1 := by simp
        generalize (w1.alloc (Obj.cells #[.int .i64 (k : Int)] 3)) = w2 at by0 ey sy ⊢
        have Sy := Lib.hid sy
        clear sy
        have h2 := ey.size
        obtain ⟨v3, w3, hr3, hwin3, hk3, ho3⟩ := append_int w2 w.heap.size _ (onTo f t l k) 53 (HW1.out.ext ey) k w1.heap.size by0 (by omega) (by omega)
        rw [← HS.out] at hwin3
        have HW3 := Lib.hid hwin3
        have HE3 : Hid (Ext w w3) := Lib.hid ((HE1.out.ext ey).then hk3 (fun i hi h => by have := HW1.out.block i h; omega))
        clear ey by0 hwin3 hk3 ho3
        refine ⟨?_⟩
        refine wpList_append_ran rfl _ _ hr3 rfl rfl rfl ?_
        clear hr3
        go_wp2_with fail
        go_roundw
        case rel => exact ⟨k + 1, by omega, by go_num, HW3, HE3⟩
        case measure => simp [intOf]; omega
    · obtain rfl : k = l.length := by omega
      go_wp2_with fail
      go_ret
      exact ⟨_, rfl, hwin.out, he.out⟩
def NA.on (N : NA) (f t : Int) : List Nat := onTo f t N.l N.l.length
theorem NA.on_lt (N : NA) (f t : Int) : ∀ i ∈ N.on f t, i < N.l.length := onTo_lt f t N.l _
theorem NA.on_le (N : NA) (f t : Int) : (N.on f t).length ≤ N.l.length := onTo_le f t N.l _
def pickOf (p : Int) (L : List Nat) : Nat := L.getD (p % (L.length : Int)).toNat 0
theorem pickOf_mem (p : Int) (L : List Nat) (h : L ≠ []) : pickOf p L ∈ L := by
  have hl : 0 < L.length := List.length_pos_iff.2 h
  have h1 := Int.emod_nonneg p (show (L.length : Int) ≠ 0 by omega)
  have h2 := Int.emod_lt_of_pos p (show 0 < (L.length : Int) by omega)
  unfold pickOf
  rw [List.getD_eq_getElem?_getD, List.getElem?_eq_getElem (show (p % (L.length : Int)).toNat < L.length by omega)]
  exact List.getElem_mem _
theorem mod_mod (p n : Int) (hn : 0 < n) : (p.tmod n + n).tmod n = p % n := by
  have h1 : p.tmod n % n = p % n := by
    rw [Int.tmod_eq_emod]
    split
    · simp
    · rw [Int.natAbs_of_nonneg (by omega)]; simp
  have h2 : -n < p.tmod n := by
    have := Int.tmod_lt_of_pos (-p) hn
    rw [Int.neg_tmod] at this; omega
  rw [Int.tmod_eq_emod_of_nonneg (by omega)]
  simp [h1]
theorem pick_arg {F M : Nat → Prop} (w : World) (b : Nat) (N : NA) (f t p : Int) (h : NetX w F M b N) (hk : N.link f t = false) :
    Calls Try.prog 39 #[.pointer (some ⟨b, 0, none⟩), .int .i64 f, .int .i64 t, .int .i64 p] w fun e w' => e = .returned (.tuple #[.int .i64 0, .int .i64 2]) ∧ Ext w w' := by
  have HN := Lib.hid h
  have HK := Lib.hid hk
  clear h hk
  go_enter Try.func39, Try.ntmps39
  go_wp2_with fail
  refine (none_net w b N HN.out).mono ?_
  rintro e w' ⟨rfl, rfl⟩
  go_wp2_with fail
  refine (link_any w b N f t HN.out).mono ?_
  rintro e w1 ⟨rfl, hE⟩
  have HE := Lib.hid hE
  rw [HK.out]
  clear hE
  go_wp2_with fail
  go_ret2
  exact ⟨rfl, HE.out⟩
theorem pick_none {F M : Nat → Prop} (w : World) (b : Nat) (N : NA) (f t p : Int) (h : NetX w F M b N) (hk : N.link f t = true) (h0 : N.on f t = []) :
    Calls Try.prog 39 #[.pointer (some ⟨b, 0, none⟩), .int .i64 f, .int .i64 t, .int .i64 p] w fun e w' => e = .returned (.tuple #[.int .i64 0, .int .i64 5]) ∧ Ext w w' := by
  have H0 := Lib.hid h0
  clear h0
  have HN := Lib.hid h
  have HK := Lib.hid hk
  obtain ⟨A, m, a, c, hb, hv, hs, hA⟩ := h.see
  have HB := Lib.hid hb
  have HV := Lib.hid hv
  have HA := Lib.hid hA
  have hll : N.l.length ≤ 4096 := by have := h.ll; have := h.m1; omega
  obtain ⟨L, hL⟩ : ∃ L, N.on f t = L := ⟨_, rfl⟩
  have hL4 : L.length ≤ 4096 := by have := N.on_le f t; rw [hL] at this; omega
  have HL := Lib.hid hL
  clear h hk hb hv hs hA hL
  go_enter Try.func39, Try.ntmps39
  go_wp2_with fail
  refine (none_net w b N HN.out).mono ?_
  rintro e w' ⟨rfl, rfl⟩
  go_wp2_with fail
  refine (link_any w b N f t HN.out).mono ?_
  rintro e w1 ⟨rfl, hE⟩
  have HE := Lib.hid hE
  rw [HK.out]
  replace HB := Lib.hid (HB.out.ext hE)
  replace HV := Lib.hid (HV.out.ext hE)
  have h01 := hE.size
  clear hE
  obtain ⟨cHB, zHB⟩ := HB.out.reads
  have lHB := HB.out.lt
  go_wp2_with fail
  have hE0 : Keeps NoB w1 w1.drew := (Keeps.refl _ _).drew
  refine wp_region_plan [(0, 0), (0, 1), (0, 2), (1, 3), (0, 4), (0, 5), (2, 6)] [3] [6, 7, 8] [7, 8] (ClsE w1) (by kernel_rfl) (by kernel_rfl) (by kernel_rfl) rfl rfl (ClsE.of hE0) (fun _ _ _ d _ h => by cases d <;> exact h) ?_; simp only [planL, List.getElem?_toArray, List.getElem?_cons_succ, List.getElem?_cons_zero]
  refine plan_pure rfl (fun K hK => quiet_move' _ rfl (hK _ ?_)); clear hK K; simp only [Act.put, Act.eval, Array.getD_eq_getD_getElem?, List.getElem?_toArray, List.getElem?_cons_zero, Option.getD_some, List.setIfInBounds_toArray, List.set_cons_zero, List.set_cons_succ]
  refine plan_pure rfl (fun K hK => quiet_run (v := ?_) (fun W _ => ?_) (hK _ ?_)); rotate_left; (go_simp <;> with_reducible rfl); clear hK K; simp only [Act.put, List.setIfInBounds_toArray, List.set_cons_zero, List.set_cons_succ]
  refine plan_pure rfl (fun K hK => quiet_run (v := ?_) (fun W _ => ?_) (hK _ ?_)); rotate_left; (go_simp <;> with_reducible rfl); clear hK K; simp only [Act.put, List.setIfInBounds_toArray, List.set_cons_zero, List.set_cons_succ]
  refine plan_load rfl (fun K hK => quiet_runE (v := ?_) (fun W => ?_) (hK _ ?_)); rotate_left; (go_simp <;> with_reducible rfl); clear hK K; simp only [Act.put, List.setIfInBounds_toArray, List.set_cons_zero, List.set_cons_succ]
  refine plan_pure rfl (fun K hK => quiet_move' _ rfl (hK _ ?_)); clear hK K; simp only [Act.put, Act.eval, Array.getD_eq_getD_getElem?, List.getElem?_toArray, List.getElem?_cons_zero, List.getElem?_cons_succ, Option.getD_some, List.setIfInBounds_toArray, List.set_cons_zero, List.set_cons_succ]
  refine plan_pure rfl (fun K hK => quiet_move' _ rfl (hK _ ?_)); clear hK K; simp only [Act.put, Act.eval, Array.getD_eq_getD_getElem?, List.getElem?_toArray, List.getElem?_cons_zero, List.getElem?_cons_succ, Option.getD_some, List.setIfInBounds_toArray, List.set_cons_zero, List.set_cons_succ]
  refine plan_does rfl (fun K hK => ?_)
  go_wp2_with fail
  refine (on_any _ f t).mono ?_
  rintro e w2 ⟨rfl, hq, hr, hE2⟩
  have hE02 := hE0.ext hE2
  have HQ := Lib.hid hq
  have HR := Lib.hid hr
  refine hK _ _ ⟨ClsE.of (by assumption), ?_⟩; clear hK K; try simp only [Act.put, List.setIfInBounds_toArray, List.set_cons_zero, List.set_cons_succ]
  refine plan_nil ?_; simp only [tailL, List.filterMap_cons, List.filterMap_nil, List.getElem?_toArray, List.getElem?_cons_succ, List.getElem?_cons_zero]; change wpList _ _ _ (_ :: _ :: []) _ _
  go_wp2_with fail
  have HE02 := Lib.hid hE02
  refine (places_any _ _ _ f t _ N.l (HV.out.ext HE02.out) hll HQ.out HR.out (fun k hk => by have := HA.out k hk; have := HE02.out.size; omega)).mono ?_
  rintro e w3 ⟨v', rfl, hwin, hE3⟩
  have HE03 := Lib.hid (HE.out.ext (HE02.out.ext hE3))
  have hwin' : Win w3 w2.heap.size 1 v' L.length (L.map intV) := by rw [← HL.out]; exact hwin
  obtain ⟨a3, c3, rfl⟩ := hwin'.len
  have HW := Lib.hid hwin'
  clear hq hr hE2 hE02 hE3 hwin hwin'
  clear cHB zHB lHB
  obtain rfl : L = [] := by rw [← HL.out]; exact H0.out
  simp only [List.length_nil]
  go_wp2_with fail
  go_ret2
  exact ⟨rfl, HE03.out⟩
theorem pick_some {F M : Nat → Prop} (w : World) (b : Nat) (N : NA) (f t p : Int) (h : NetX w F M b N) (hk : N.link f t = true) (hp : I64 p) (h0 : N.on f t ≠ []) :
    Calls Try.prog 39 #[.pointer (some ⟨b, 0, none⟩), .int .i64 f, .int .i64 t, .int .i64 p] w fun e w' => e = .returned (.tuple #[.int .i64 (pickOf p (N.on f t) : Nat), .int .i64 0]) ∧ Ext w w' := by
  have H0 := Lib.hid h0
  clear h0
  have HN := Lib.hid h
  have HK := Lib.hid hk
  obtain ⟨A, m, a, c, hb, hv, hs, hA⟩ := h.see
  have HB := Lib.hid hb
  have HV := Lib.hid hv
  have HA := Lib.hid hA
  have hll : N.l.length ≤ 4096 := by have := h.ll; have := h.m1; omega
  obtain ⟨L, hL⟩ : ∃ L, N.on f t = L := ⟨_, rfl⟩
  have hL4 : L.length ≤ 4096 := by have := N.on_le f t; rw [hL] at this; omega
  have HL := Lib.hid hL
  clear h hk hb hv hs hA hL
  go_enter Try.func39, Try.ntmps39
  go_wp2_with fail
  refine (none_net w b N HN.out).mono ?_
  rintro e w' ⟨rfl, rfl⟩
  go_wp2_with fail
  refine (link_any w b N f t HN.out).mono ?_
  rintro e w1 ⟨rfl, hE⟩
  have HE := Lib.hid hE
  rw [HK.out]
  replace HB := Lib.hid (HB.out.ext hE)
  replace HV := Lib.hid (HV.out.ext hE)
  have h01 := hE.size
  clear hE
  obtain ⟨cHB, zHB⟩ := HB.out.reads
  have lHB := HB.out.lt
  go_wp2_with fail
  have hE0 : Keeps NoB w1 w1.drew := (Keeps.refl _ _).drew
  refine wp_region_plan [(0, 0), (0, 1), (0, 2), (1, 3), (0, 4), (0, 5), (2, 6)] [3] [6, 7, 8] [7, 8] (ClsE w1) (by kernel_rfl) (by kernel_rfl) (by kernel_rfl) rfl rfl (ClsE.of hE0) (fun _ _ _ d _ h => by cases d <;> exact h) ?_; simp only [planL, List.getElem?_toArray, List.getElem?_cons_succ, List.getElem?_cons_zero]
  refine plan_pure rfl (fun K hK => quiet_move' _ rfl (hK _ ?_)); clear hK K; simp only [Act.put, Act.eval, Array.getD_eq_getD_getElem?, List.getElem?_toArray, List.getElem?_cons_zero, Option.getD_some, List.setIfInBounds_toArray, List.set_cons_zero, List.set_cons_succ]
  refine plan_pure rfl (fun K hK => quiet_run (v := ?_) (fun W _ => ?_) (hK _ ?_)); rotate_left; (go_simp <;> with_reducible rfl); clear hK K; simp only [Act.put, List.setIfInBounds_toArray, List.set_cons_zero, List.set_cons_succ]
  refine plan_pure rfl (fun K hK => quiet_run (v := ?_) (fun W _ => ?_) (hK _ ?_)); rotate_left; (go_simp <;> with_reducible rfl); clear hK K; simp only [Act.put, List.setIfInBounds_toArray, List.set_cons_zero, List.set_cons_succ]
  refine plan_load rfl (fun K hK => quiet_runE (v := ?_) (fun W => ?_) (hK _ ?_)); rotate_left; (go_simp <;> with_reducible rfl); clear hK K; simp only [Act.put, List.setIfInBounds_toArray, List.set_cons_zero, List.set_cons_succ]
  refine plan_pure rfl (fun K hK => quiet_move' _ rfl (hK _ ?_)); clear hK K; simp only [Act.put, Act.eval, Array.getD_eq_getD_getElem?, List.getElem?_toArray, List.getElem?_cons_zero, List.getElem?_cons_succ, Option.getD_some, List.setIfInBounds_toArray, List.set_cons_zero, List.set_cons_succ]
  refine plan_pure rfl (fun K hK => quiet_move' _ rfl (hK _ ?_)); clear hK K; simp only [Act.put, Act.eval, Array.getD_eq_getD_getElem?, List.getElem?_toArray, List.getElem?_cons_zero, List.getElem?_cons_succ, Option.getD_some, List.setIfInBounds_toArray, List.set_cons_zero, List.set_cons_succ]
  refine plan_does rfl (fun K hK => ?_)
  go_wp2_with fail
  refine (on_any _ f t).mono ?_
  rintro e w2 ⟨rfl, hq, hr, hE2⟩
  have hE02 := hE0.ext hE2
  have HQ := Lib.hid hq
  have HR := Lib.hid hr
  refine hK _ _ ⟨ClsE.of (by assumption), ?_⟩; clear hK K; try simp only [Act.put, List.setIfInBounds_toArray, List.set_cons_zero, List.set_cons_succ]
  refine plan_nil ?_; simp only [tailL, List.filterMap_cons, List.filterMap_nil, List.getElem?_toArray, List.getElem?_cons_succ, List.getElem?_cons_zero]; change wpList _ _ _ (_ :: _ :: []) _ _
  go_wp2_with fail
  have HE02 := Lib.hid hE02
  refine (places_any _ _ _ f t _ N.l (HV.out.ext HE02.out) hll HQ.out HR.out (fun k hk => by have := HA.out k hk; have := HE02.out.size; omega)).mono ?_
  rintro e w3 ⟨v', rfl, hwin, hE3⟩
  have HE03 := Lib.hid (HE.out.ext (HE02.out.ext hE3))
  have hwin' : Win w3 w2.heap.size 1 v' L.length (L.map intV) := by rw [← HL.out]; exact hwin
  obtain ⟨a3, c3, rfl⟩ := hwin'.len
  have HW := Lib.hid hwin'
  clear hq hr hE2 hE02 hE3 hwin hwin'
  clear cHB zHB lHB
  have hl : 0 < L.length := List.length_pos_iff.2 (by rw [← HL.out]; exact H0.out)
  have hz : ((L.length : Int) == 0) = false := beq_eq_false_iff_ne.2 (by omega)
  obtain ⟨g, o, cap, hv, hg1, hg2, hg3, hg4⟩ := HW.out.form hl
  simp only [Value.slice.injEq] at hv
  obtain ⟨rfl, -, rfl⟩ := hv
  unfold I64 at hp
  have h1 := Int.emod_nonneg p (show (L.length : Int) ≠ 0 by omega)
  have h2 := Int.emod_lt_of_pos p (show 0 < (L.length : Int) by omega)
  have hmm := mod_mod p L.length (by omega)
  have hlo : -(L.length : Int) < p.tmod L.length := by
    have := Int.tmod_lt_of_pos (-p) (show 0 < (L.length : Int) by omega)
    rw [Int.neg_tmod] at this; omega
  have hhi := Int.tmod_lt_of_pos p (show 0 < (L.length : Int) by omega)
  obtain ⟨x, hx⟩ : ∃ x, p.tmod (L.length : Int) = x := ⟨_, rfl⟩
  obtain ⟨j, hj⟩ : ∃ j : Nat, p % (L.length : Int) = j := ⟨(p % (L.length : Int)).toNat, (Int.toNat_of_nonneg h1).symm⟩
  rw [hj] at h1 h2 hmm
  rw [hx] at hlo hhi hmm
  have hcj := hg4 j (intV (pickOf p L)) (by
    rw [List.getElem?_map, List.getElem?_eq_getElem (show j < L.length by omega)]
    unfold pickOf
    rw [hj, Int.toNat_natCast, List.getD_eq_getElem?_getD, List.getElem?_eq_getElem (show j < L.length by omega)]
    rfl)
  unfold intV at hcj
  have HJ := Lib.hid hj
  clear hg4 hj
  have hjl : (j : Int) < (L.length : Int) := h2
  go_wp2_with fail
  go_ret2
  exact ⟨by rw [HL.out]; rfl, HE03.out⟩
end Go.Proofs.Ytdiogipdcpiffaa
