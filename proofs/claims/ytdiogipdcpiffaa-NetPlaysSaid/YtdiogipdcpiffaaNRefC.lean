/- The document's net: Peek, without, Drop, Take. Conditions: it lies as 'RefV' says. -/
import Derived.Test.YtdiogipdcpiffaaNRefB
set_option linter.unusedVariables false
set_option maxHeartbeats 400000
set_option maxRecDepth 10000
namespace Go.Proofs.Ytdiogipdcpiffaa
open Go.RowKit

/-- old blocks of A, and those laid since w -/
def Gr (A : Nat → Prop) (w w' : World) : Nat → Prop := fun k => A k ∨ Fr w w' k
set_option maxHeartbeats 2000000 in
theorem rwithout_any {A : Nat → Prop} (w : World) (v : Value) (N : NA) (i : Nat) (h : RefV w A v N) (hl : N.l.length ≤ 4096) (hA : ∀ k, A k → k < w.heap.size) (hi : i < N.l.length) :
    Calls Try.prog 64 #[v, .int .i64 (i : Int)] w fun e w' => ∃ v', e = .returned v' ∧ RefV w' (Gr A w w') v' (N.without i) ∧ Ext w w' := by
  obtain ⟨a, c, a', c', rfl, hp, hq⟩ := h.args
  have HQ := Lib.hid hq
  have HP := Lib.hid hp
  have HA := Lib.hid hA
  obtain ⟨-, hat⟩ := hp.at
  obtain ⟨g, o, rfl, hc, hAg, -⟩ := hat 0 (by omega)
  have hgl := hA g hAg
  have hi1 : IntKind.i64.wrap ((i : Int) + 1) = (i : Int) + 1 := IntWalk.i64_in _ (by omega)
  have hi2 : 0 ≤ (i : Int) + 1 := by omega
  have hi3 : ((i : Int) + 1).toNat = i + 1 := by omega
  have hicp : i ≤ c := by omega
  have hicp2 : i + 1 ≤ N.l.length := by omega
  have hi4 : (i : Int) + 1 ≤ (N.l.length : Int) := by omega
  obtain ⟨sp, hsp⟩ : ∃ sp : Option Addr, (if c = i + 1 then some (⟨g, o, none⟩ : Addr) else some ⟨g, o + (i + 1) * 4, none⟩) = sp := ⟨_, rfl⟩
  have t1 : ParsV w A (.slice (some ⟨g, o, none⟩) i c) (N.l.take i) := by
    rcases hp with ⟨_, h1, h2⟩ | ⟨b, o', c2, h1, h2, h3, h4⟩
    · rw [h2] at hi; simp at hi
    · simp only [Value.slice.injEq, Option.some.injEq, Addr.mk.injEq] at h1
      obtain ⟨⟨rfl, rfl, _⟩, _, rfl⟩ := h1
      refine .inr ⟨g, o, c, by rw [List.length_take, Nat.min_eq_left (by omega)], by rw [List.length_take]; omega, h3, fun j hj => ?_⟩
      rw [List.length_take] at hj
      rw [List.getElem_take]
      exact h4 j (by omega)
  have t2 : ParsV w A (.slice sp (N.l.length - (i + 1)) (c - (i + 1))) (N.l.drop (i + 1)) := by
    have := SlV.drop hp (i + 1) (by omega)
    rw [hsp] at this
    exact this
  have HT1 := Lib.hid t1
  have HT2 := Lib.hid t2
  clear h hp hq hA hat hAg t1 t2
  go_enter Try.func64, Try.ntmps64
  go_wp2_with fail
  have bx0 := ((Box.new w 41 [.int .i64 (N.ends : Int), .int .i64 (N.most : Int), .int .i64 (N.came : Int), .slice (some ⟨g, o, none⟩) N.l.length c, .slice a' N.downs.length c']).alloc (Obj.cells #[.int .i64 0, .int .i64 0, .int .i64 0, .slice none 0 0, .slice none 0 0] 41))
  have bx1 := (Box.new (w.alloc (Obj.cells #[.int .i64 (N.ends : Int), .int .i64 (N.most : Int), .int .i64 (N.came : Int), .slice (some ⟨g, o, none⟩) N.l.length c, .slice a' N.downs.length c'] 41)) 41 [.int .i64 0, .int .i64 0, .int .i64 0, .slice none 0 0, .slice none 0 0])
  have ex : Ext w ((w.alloc (Obj.cells #[.int .i64 (N.ends : Int), .int .i64 (N.most : Int), .int .i64 (N.came : Int), .slice (some ⟨g, o, none⟩) N.l.length c, .slice a' N.downs.length c'] 41)).alloc (Obj.cells #[.int .i64 0, .int .i64 0, .int .i64 0, .slice none 0 0, .slice none 0 0] 41)) := (((Keeps.refl NoB w).alloc _).alloc _)
  have sx : ((w.alloc (Obj.cells #[.int .i64 (N.ends : Int), .int .i64 (N.most : Int), .int .i64 (N.came : Int), .slice (some ⟨g, o, none⟩) N.l.length c, .slice a' N.downs.length c'] 41)).alloc (Obj.cells #[.int .i64 0, .int .i64 0, .int .i64 0, .slice none 0 0, .slice none 0 0] 41)).heap.size = w.heap.size + 2 := by simp
  simp only [World.size_alloc] at bx1
  generalize ((w.alloc (Obj.cells #[.int .i64 (N.ends : Int), .int .i64 (N.most : Int), .int .i64 (N.came : Int), .slice (some ⟨g, o, none⟩) N.l.length c, .slice a' N.downs.length c'] 41)).alloc (Obj.cells #[.int .i64 0, .int .i64 0, .int .i64 0, .slice none 0 0, .slice none 0 0] 41)) = w0 at bx0 bx1 ex sx ⊢
  have Sx := Lib.hid sx
  clear sx
  have B0 := Lib.hid bx0
  have B1 := Lib.hid bx1
  have HE := Lib.hid ex
  have hgw : g < w0.heap.size := by have := ex.size; omega
  have hs0 : w.heap.size + 2 ≤ w0.heap.size := by have := Sx.out; omega
  have hs0' : w0.heap.size ≤ w.heap.size + 2 := by have := Sx.out; omega
  clear ex bx0 bx1
  obtain ⟨cB0, zB0⟩ := B0.out.reads
  have lB0 := B0.out.lt
  obtain ⟨cB1, zB1⟩ := B1.out.reads
  have lB1 := B1.out.lt
  have hE0 : Keeps NoB w0 w0.drew := (Keeps.refl _ _).drew
  refine wp_region_plan [(0, 1), (1, 2), (0, 3), (0, 4), (0, 6), (1, 7), (0, 8), (0, 9), (0, 10), (2, 0), (2, 5)] [2, 7] [0, 5, 11, 12, 13] [11, 12, 13] (ClsE w0) (by kernel_rfl) (by kernel_rfl) (by kernel_rfl) rfl rfl (ClsE.of hE0) (fun _ _ _ d _ h => by cases d <;> exact h) ?_; simp only [planL, List.getElem?_toArray, List.getElem?_cons_succ, List.getElem?_cons_zero]
  refine plan_pure rfl (fun K hK => quiet_run (v := ?_) (fun W _ => ?_) (hK _ ?_)); rotate_left; (go_simp <;> with_reducible rfl); clear hK K; simp only [Act.put, List.setIfInBounds_toArray, List.set_cons_zero, List.set_cons_succ]
  refine plan_load rfl (fun K hK => quiet_runE (v := ?_) (fun W => ?_) (hK _ ?_)); rotate_left; (go_simp <;> with_reducible rfl); clear hK K; simp only [Act.put, List.setIfInBounds_toArray, List.set_cons_zero, List.set_cons_succ]
  refine plan_pure rfl (fun K hK => quiet_move' _ rfl (hK _ ?_)); clear hK K; simp only [Act.put, Act.eval, Array.getD_eq_getD_getElem?, List.getElem?_toArray, List.getElem?_cons_zero, List.getElem?_cons_succ, Option.getD_some, List.setIfInBounds_toArray, List.set_cons_zero, List.set_cons_succ]
  refine plan_pure rfl (fun K hK => quiet_run (v := ?_) (fun W _ => ?_) (hK _ ?_)); rotate_left; (go_simp <;> with_reducible rfl); clear hK K; simp only [Act.put, List.setIfInBounds_toArray, List.set_cons_zero, List.set_cons_succ]
  refine plan_pure rfl (fun K hK => quiet_run (v := ?_) (fun W _ => ?_) (hK _ ?_)); rotate_left; (go_simp <;> with_reducible rfl); clear hK K; simp only [Act.put, List.setIfInBounds_toArray, List.set_cons_zero, List.set_cons_succ]
  refine plan_load rfl (fun K hK => quiet_runE (v := ?_) (fun W => ?_) (hK _ ?_)); rotate_left; (go_simp <;> with_reducible rfl); clear hK K; simp only [Act.put, List.setIfInBounds_toArray, List.set_cons_zero, List.set_cons_succ]
  refine plan_pure rfl (fun K hK => quiet_move' _ rfl (hK _ ?_)); clear hK K; simp only [Act.put, Act.eval, Array.getD_eq_getD_getElem?, List.getElem?_toArray, List.getElem?_cons_zero, List.getElem?_cons_succ, Option.getD_some, List.setIfInBounds_toArray, List.set_cons_zero, List.set_cons_succ]
  refine plan_pure rfl (fun K hK => quiet_run (v := ?_) (fun W _ => ?_) (hK _ ?_)); rotate_left; (go_simp <;> with_reducible rfl); clear hK K; simp only [Act.put, List.setIfInBounds_toArray, List.set_cons_zero, List.set_cons_succ]
  refine plan_pure rfl (fun K hK => quiet_run (v := ?_) (fun W _ => ?_) (hK _ ?_)); rotate_left; (go_simp <;> with_reducible rfl); clear hK K; simp only [Act.put, List.setIfInBounds_toArray, List.set_cons_zero, List.set_cons_succ]
  refine plan_does rfl (fun K hK => ?_)
  go_wp2_with fail
  refine ⟨ClsE.of (by repeat (first | assumption | exact Keeps.refl _ _ | refine Keeps.alloc ?_ _ | refine Keeps.setOne ?_ _ _ | refine Keeps.setCell ?_ _ _ (.inl (by first | rfl | exact .inl rfl | exact .inr rfl | omega)) | refine Keeps.drew ?_)), ?_⟩; try simp only [Act.put, List.setIfInBounds_toArray, List.set_cons_zero, List.set_cons_succ]
  refine plan_does rfl (fun K hK => ?_)
  have hk0 : Ext w0 ((w0.alloc (Obj.cells #[] 50)).drew) := ((Keeps.refl _ _).alloc _).drew
  obtain ⟨cs1, hrow1, hsrc1⟩ := ((HT1.out.ext HE.out).ext hk0).row
  obtain ⟨v1, w1, hr1, hwin1, hk1, ho1⟩ := append_pars (A := A) _ w0.heap.size _ [] [] 38 (Win.empty (Nat.le_refl _) (by simp)) _ cs1 (N.l.take i) (by simpa [Nat.min_eq_left (Nat.le_of_lt hi)] using hsrc1) hrow1 (by simp; omega) (by simp)
  have hE1 : Ext w0 w1 := hk0.then hk1 (fun i hi h2 => by have := own_eq h2; omega)
  simp only [List.nil_append] at hwin1
  obtain ⟨a1, d1, rfl⟩ := hwin1.len
  have HW1 := Lib.hid hwin1
  have HR1 := Lib.hid (hrow1.mono fun c x h => h.keeps hk1 (fun k hk h2 => by have := HA.out k hk; have := own_eq h2; omega))
  refine oper_append_ran _ _ hr1 rfl rfl rfl ?_
  clear hrow1 hsrc1 hr1 hk1 ho1 hk0 hwin1
  refine hK _ _ ⟨ClsE.of (by assumption), ?_⟩; clear hK K; try simp only [Act.put, List.setIfInBounds_toArray, List.set_cons_zero, List.set_cons_succ]
  refine plan_nil ?_; simp only [tailL, List.filterMap_cons, List.filterMap_nil, List.getElem?_toArray, List.getElem?_cons_succ, List.getElem?_cons_zero]; change wpList _ _ _ (_ :: _ :: _ :: []) _ _
  have hb2 : w0.heap.size ≤ w1.heap.size := hE1.size
  obtain ⟨cs2, hrow2, hsrc2⟩ := ((HT2.out.ext HE.out).ext hE1).row
  rw [List.length_drop] at hsrc2
  obtain ⟨v2, w2, hr2, hwin2, hk2, ho2⟩ := append_pars (A := A) _ w0.heap.size _ cs1 (N.l.take i) 38 HW1.out _ cs2 (N.l.drop (i + 1)) (by rw [List.length_drop]; exact hsrc2) hrow2 (by simp; omega) hb2
  have hnew : ∀ k, k < w0.heap.size → ¬ Own (.slice a1 (N.l.take i).length d1) k := fun k hk h2 => by have := HW1.out.block k h2; omega
  have hE2 : Ext w0 w2 := hE1.then hk2 (fun i hi h2 => (hnew i hi h2).elim)
  obtain ⟨n2, hn2⟩ : ∃ n2, (N.l.take i ++ N.l.drop (i + 1)).length = n2 := ⟨_, rfl⟩
  rw [hn2] at hwin2
  obtain ⟨a2, d2, rfl⟩ := hwin2.len
  have HW2 := Lib.hid hwin2
  have HN2 := Lib.hid hn2
  have HR2 := Lib.hid (RowOf.append (HR1.out.mono fun c x h => h.keeps hk2 (fun k hk h2 => hnew k (by have := HA.out k hk; omega) h2)) (hrow2.mono fun c x h => h.keeps hk2 (fun k hk h2 => hnew k (by have := HA.out k hk; omega) h2)))
  clear hrow2 hsrc2 hwin2 hk2 ho2 hn2
  clear cB0 zB0 lB0 cB1 zB1 lB1
  replace B0 := Lib.hid (B0.out.ext hE2)
  replace B1 := Lib.hid (B1.out.ext hE2)
  obtain ⟨cB0, zB0⟩ := B0.out.reads
  have lB0 := B0.out.lt
  obtain ⟨cB1, zB1⟩ := B1.out.reads
  have lB1 := B1.out.lt
  go_wp2_with (at_builtin; refine wpList_append_ran rfl _ _ hr2 rfl rfl rfl ?_)
  have q1 := ((((((B1.out.other ⟨w.heap.size, 3, none⟩ (.slice a2 n2 d2) (by simp)).set 0 (.int .i64 (N.ends : Int))).set 1 (.int .i64 (N.most : Int))).set 2 (.int .i64 (N.came : Int))).set 3 (.slice a2 n2 d2)).set 4 (.slice a' N.downs.length c'))
  dsimp only [List.set_cons_zero, List.set_cons_succ] at q1
  have hk : Keeps (fun k => k = w.heap.size ∨ k = w.heap.size + 1) w2 ((((((w2.setCell ⟨w.heap.size, 3, none⟩ (.slice a2 n2 d2)).setCell ⟨w.heap.size + 1, 0, none⟩ (.int .i64 (N.ends : Int))).setCell ⟨w.heap.size + 1, 1, none⟩ (.int .i64 (N.most : Int))).setCell ⟨w.heap.size + 1, 2, none⟩ (.int .i64 (N.came : Int))).setCell ⟨w.heap.size + 1, 3, none⟩ (.slice a2 n2 d2)).setCell ⟨w.heap.size + 1, 4, none⟩ (.slice a' N.downs.length c')) :=
    ((((((Keeps.refl _ _).setCell _ _ (.inl (.inl rfl))).setCell _ _ (.inl (.inr rfl))).setCell _ _ (.inl (.inr rfl))).setCell _ _ (.inl (.inr rfl))).setCell _ _ (.inl (.inr rfl))).setCell _ _ (.inl (.inr rfl))
  have q2 := q1.reads.1
  have hEe := HE.out.size
  have hE2s := hE2.size
  generalize ((((((w2.setCell ⟨w.heap.size, 3, none⟩ (.slice a2 n2 d2)).setCell ⟨w.heap.size + 1, 0, none⟩ (.int .i64 (N.ends : Int))).setCell ⟨w.heap.size + 1, 1, none⟩ (.int .i64 (N.most : Int))).setCell ⟨w.heap.size + 1, 2, none⟩ (.int .i64 (N.came : Int))).setCell ⟨w.heap.size + 1, 3, none⟩ (.slice a2 n2 d2)).setCell ⟨w.heap.size + 1, 4, none⟩ (.slice a' N.downs.length c')) = w3 at q2 hk ⊢
  clear cB0 zB0 lB0 cB1 zB1 lB1
  have h23 := hk.size
  refine bodyPost_ret (v := .agg #[.int .i64 (N.ends : Int), .int .i64 (N.most : Int), .int .i64 (N.came : Int), .slice a2 n2 d2, .slice a' N.downs.length c']) (by simp [results, Try.results64, go_sem, q2]) rfl ⟨_, rfl, ⟨_, _, rfl, ?_, ?_⟩, ?_⟩
  · have hA2 : ∀ k, A k → k < w2.heap.size := fun k hk => by have := HA.out k hk; omega
    have h1 : ParsV w2 (fun k => A k ∨ (w0.heap.size ≤ k ∧ k < w2.heap.size)) (.slice a2 n2 d2) (N.without i).l := ParsV.of_win HW2.out HN2.out.symm HR2.out (fun k hk => .inl hk) (fun k h1 h2 => .inr ⟨h1, h2⟩)
    refine (h1.keeps hk (fun k hk' h => ?_)).mono (fun k hk' => ?_)
    · rcases hk' with h9 | h9
      · have := HA.out k h9; omega
      · omega
    · rcases hk' with h9 | h9
      · exact .inl h9
      · exact .inr ⟨by omega, by omega⟩
  · refine (((HQ.out.ext HE.out).ext hE2).keeps hk (fun k hk' h => by have := HA.out k hk'; omega)).mono (fun k hk' => .inl hk')
  · exact (HE.out.ext hE2).then hk (fun i hi h => by omega)
theorem rdrop_err {A : Nat → Prop} (w : World) (v : Value) (N : NA) (f t p : Int) (h : RefV w A v N) (he64 : N.ends ≤ 64) (hl : N.l.length ≤ 4096) (hA : ∀ k, A k → k < w.heap.size) (k : Nat) (hk : N.pickErr f t = k) (h0 : k ≠ 0) :
    Calls Try.prog 50 #[v, .int .i64 f, .int .i64 t, .int .i64 p] w fun e w' => e = .returned (.tuple #[v, .int .i64 0, .int .i64 (k : Int)]) ∧ Ext w w' := by
  have hz : ((k : Int) != 0) = true := by rw [bne_iff_ne]; omega
  have HK := Lib.hid hk
  clear hk
  have HV := Lib.hid h
  have HA := Lib.hid hA
  obtain ⟨a, c, a', c', rfl, hp, hq⟩ := h.args
  have HP := Lib.hid hp
  have hllen := hl
  clear h hp hq hA
  go_enter Try.func50, Try.ntmps50
  go_wp2_with fail
  have bx0 := ((Box.new w 41 [.int .i64 (N.ends : Int), .int .i64 (N.most : Int), .int .i64 (N.came : Int), .slice a N.l.length c, .slice a' N.downs.length c']).alloc (Obj.cells #[.int .i64 0, .int .i64 0, .int .i64 0, .slice none 0 0, .slice none 0 0] 41))
  have bx1 := (Box.new (w.alloc (Obj.cells #[.int .i64 (N.ends : Int), .int .i64 (N.most : Int), .int .i64 (N.came : Int), .slice a N.l.length c, .slice a' N.downs.length c'] 41)) 41 [.int .i64 0, .int .i64 0, .int .i64 0, .slice none 0 0, .slice none 0 0])
  have ex : Ext w ((w.alloc (Obj.cells #[.int .i64 (N.ends : Int), .int .i64 (N.most : Int), .int .i64 (N.came : Int), .slice a N.l.length c, .slice a' N.downs.length c'] 41)).alloc (Obj.cells #[.int .i64 0, .int .i64 0, .int .i64 0, .slice none 0 0, .slice none 0 0] 41)) := (((Keeps.refl NoB w).alloc _).alloc _)
  have sx : ((w.alloc (Obj.cells #[.int .i64 (N.ends : Int), .int .i64 (N.most : Int), .int .i64 (N.came : Int), .slice a N.l.length c, .slice a' N.downs.length c'] 41)).alloc (Obj.cells #[.int .i64 0, .int .i64 0, .int .i64 0, .slice none 0 0, .slice none 0 0] 41)).heap.size = w.heap.size + 2 := by simp
  simp only [World.size_alloc] at bx1
  generalize ((w.alloc (Obj.cells #[.int .i64 (N.ends : Int), .int .i64 (N.most : Int), .int .i64 (N.came : Int), .slice a N.l.length c, .slice a' N.downs.length c'] 41)).alloc (Obj.cells #[.int .i64 0, .int .i64 0, .int .i64 0, .slice none 0 0, .slice none 0 0] 41)) = w0 at bx0 bx1 ex sx ⊢
  have Sx := Lib.hid sx
  clear sx
  have B0 := Lib.hid bx0
  have B1 := Lib.hid bx1
  have HE := Lib.hid ex
  clear ex bx0 bx1
  refine (rpick_err w0 _ N f t p (HV.out.ext HE.out) he64 hl (fun k hk => Nat.lt_of_lt_of_le (HA.out k hk) HE.out.size) k HK.out h0).mono ?_
  rintro e w1 ⟨rfl, hE⟩
  replace HE := Lib.hid (HE.out.ext hE)
  replace B0 := Lib.hid (B0.out.ext hE)
  replace B1 := Lib.hid (B1.out.ext hE)
  clear hE
  obtain ⟨cB0, zB0⟩ := B0.out.reads
  have lB0 := B0.out.lt
  obtain ⟨cB1, zB1⟩ := B1.out.reads
  have lB1 := B1.out.lt
  go_wp2_with fail
  have q1 := ((((((B1.out.set 0 (.int .i64 (NA.ends N : Int))).set 1 (.int .i64 (NA.most N : Int))).set 2 (.int .i64 (NA.came N : Int))).set 3 (.slice a N.l.length c))).set 4 (.slice a' N.downs.length c'))
  dsimp only [List.set_cons_zero, List.set_cons_succ] at q1
  have hk : Keeps (OneB (w.heap.size + 1)) w1 (((((w1.setCell ⟨(w.heap.size + 1), 0, none⟩ (.int .i64 (NA.ends N : Int))).setCell ⟨(w.heap.size + 1), 1, none⟩ (.int .i64 (NA.most N : Int))).setCell ⟨(w.heap.size + 1), 2, none⟩ (.int .i64 (NA.came N : Int))).setCell ⟨(w.heap.size + 1), 3, none⟩ (.slice a N.l.length c)).setCell ⟨(w.heap.size + 1), 4, none⟩ (.slice a' N.downs.length c')) :=
    (((((Keeps.refl _ _).setOne _ _).setOne _ _).setOne _ _).setOne _ _).setOne _ _
  have q2 := q1.reads.1
  generalize (((((w1.setCell ⟨(w.heap.size + 1), 0, none⟩ (.int .i64 (NA.ends N : Int))).setCell ⟨(w.heap.size + 1), 1, none⟩ (.int .i64 (NA.most N : Int))).setCell ⟨(w.heap.size + 1), 2, none⟩ (.int .i64 (NA.came N : Int))).setCell ⟨(w.heap.size + 1), 3, none⟩ (.slice a N.l.length c)).setCell ⟨(w.heap.size + 1), 4, none⟩ (.slice a' N.downs.length c')) = w2 at q2 hk ⊢
  have hks := hk.size
  clear cB0 zB0 lB0 cB1 zB1 lB1
  refine bodyPost_ret (v := .tuple #[.agg #[.int .i64 (N.ends : Int), .int .i64 (N.most : Int), .int .i64 (N.came : Int), .slice a N.l.length c, .slice a' N.downs.length c'], .int .i64 0, .int .i64 (k : Int)]) (by simp [results, Try.results50, go_sem, q2]) rfl ⟨rfl, ?_⟩
  exact HE.out.then hk (fun i hi h => by unfold OneB at h; omega)
set_option maxHeartbeats 1000000 in
theorem rdrop_ok {A : Nat → Prop} (w : World) (v : Value) (N : NA) (f t p : Int) (h : RefV w A v N) (he64 : N.ends ≤ 64) (hl : N.l.length ≤ 4096) (hA : ∀ k, A k → k < w.heap.size) (hpp : I64 p) (hk : N.pickErr f t = 0) :
    Calls Try.prog 50 #[v, .int .i64 f, .int .i64 t, .int .i64 p] w fun e w' => ∃ v', e = .returned (.tuple #[v', .int .i64 ((N.got f t p).num : Int), .int .i64 0]) ∧ RefV w' (Gr A w w') v' (N.without (N.iOf f t p)) ∧ Ext w w' := by
  have hgot := NA.got_at (p := p) hk
  obtain ⟨hil, hxi⟩ := List.getElem?_eq_some_iff.1 hgot
  have HXI := Lib.hid hxi
  have HK := Lib.hid hk
  clear hk hgot hxi
  have HV := Lib.hid h
  have HA := Lib.hid hA
  obtain ⟨a, c, a', c', rfl, hp, hq⟩ := h.args
  have HP := Lib.hid hp
  have hllen := hl
  clear h hp hq hA
  obtain ⟨-, hat⟩ := HP.out.at
  obtain ⟨g, o, rfl, hc, hAg, hpar⟩ := hat (N.iOf f t p) hil
  have hgl := HA.out g hAg
  rw [HXI.out] at hpar
  obtain ⟨i0, i1, i2, a3, n3, i3, i4⟩ := hpar.reads
  have HI4 := Lib.hid i4
  clear hat hpar i4
  obtain ⟨x, hx⟩ : ∃ x, N.got f t p = x := ⟨_, rfl⟩
  rw [hx] at i0 ⊢
  obtain ⟨i, hi⟩ : ∃ i, N.iOf f t p = i := ⟨_, rfl⟩
  rw [hi] at i0 hil ⊢
  have HI := Lib.hid hi
  clear hx hi i1 i2 i3
  go_enter Try.func50, Try.ntmps50
  go_wp2_with fail
  have bx0 := ((Box.new w 41 [.int .i64 (N.ends : Int), .int .i64 (N.most : Int), .int .i64 (N.came : Int), .slice (some ⟨g, o, none⟩) N.l.length c, .slice a' N.downs.length c']).alloc (Obj.cells #[.int .i64 0, .int .i64 0, .int .i64 0, .slice none 0 0, .slice none 0 0] 41))
  have bx1 := (Box.new (w.alloc (Obj.cells #[.int .i64 (N.ends : Int), .int .i64 (N.most : Int), .int .i64 (N.came : Int), .slice (some ⟨g, o, none⟩) N.l.length c, .slice a' N.downs.length c'] 41)) 41 [.int .i64 0, .int .i64 0, .int .i64 0, .slice none 0 0, .slice none 0 0])
  have ex : Ext w ((w.alloc (Obj.cells #[.int .i64 (N.ends : Int), .int .i64 (N.most : Int), .int .i64 (N.came : Int), .slice (some ⟨g, o, none⟩) N.l.length c, .slice a' N.downs.length c'] 41)).alloc (Obj.cells #[.int .i64 0, .int .i64 0, .int .i64 0, .slice none 0 0, .slice none 0 0] 41)) := (((Keeps.refl NoB w).alloc _).alloc _)
  have sx : ((w.alloc (Obj.cells #[.int .i64 (N.ends : Int), .int .i64 (N.most : Int), .int .i64 (N.came : Int), .slice (some ⟨g, o, none⟩) N.l.length c, .slice a' N.downs.length c'] 41)).alloc (Obj.cells #[.int .i64 0, .int .i64 0, .int .i64 0, .slice none 0 0, .slice none 0 0] 41)).heap.size = w.heap.size + 2 := by simp
  simp only [World.size_alloc] at bx1
  generalize ((w.alloc (Obj.cells #[.int .i64 (N.ends : Int), .int .i64 (N.most : Int), .int .i64 (N.came : Int), .slice (some ⟨g, o, none⟩) N.l.length c, .slice a' N.downs.length c'] 41)).alloc (Obj.cells #[.int .i64 0, .int .i64 0, .int .i64 0, .slice none 0 0, .slice none 0 0] 41)) = w0 at bx0 bx1 ex sx ⊢
  have Sx := Lib.hid sx
  clear sx
  have B0 := Lib.hid bx0
  have B1 := Lib.hid bx1
  have HE := Lib.hid ex
  have hs0 := bx1.lt
  clear ex bx0 bx1
  refine (rpick_ok w0 _ N f t p (HV.out.ext HE.out) he64 hl (fun k hk => Nat.lt_of_lt_of_le (HA.out k hk) HE.out.size) hpp HK.out).mono ?_
  rintro e w1 ⟨rfl, hE⟩
  rw [HI.out]
  have h01 := hE.size
  replace HE := Lib.hid (HE.out.ext hE)
  replace B0 := Lib.hid (B0.out.ext hE)
  replace B1 := Lib.hid (B1.out.ext hE)
  have i01 := Ext.cell HE.out i0
  have hgl1 : g < w1.heap.size := by have := HE.out.size; omega
  have hi4 : (i : Int) < (N.l.length : Int) := by omega
  clear hE i0
  obtain ⟨cB0, zB0⟩ := B0.out.reads
  have lB0 := B0.out.lt
  obtain ⟨cB1, zB1⟩ := B1.out.reads
  have lB1 := B1.out.lt
  go_wp2_with fail
  have hng : ¬ (g = w.heap.size + 1) := by omega
  have hE0 : Keeps (OneB (w.heap.size + 1)) w1 w1.drew := (Keeps.refl _ _).drew
  refine wp_region_plan [(3, 0), (0, 1), (0, 3), (1, 4), (0, 5), (0, 6), (0, 7), (1, 8), (2, 2), (2, 9), (0, 10), (0, 11)] [4, 8] [2, 9] [] (ClsK (OneB (w.heap.size + 1)) w1) (by kernel_rfl) (by kernel_rfl) (by kernel_rfl) rfl rfl (ClsK.of hE0) (fun _ _ _ d _ h => by cases d <;> exact h) ?_; simp only [planL, List.getElem?_toArray, List.getElem?_cons_succ, List.getElem?_cons_zero]
  refine plan_exact rfl (fun K hK => quiet_runX (v := ?_) ?_ (hK _ ?_)); rotate_left; (go_simp <;> with_reducible rfl); clear hK K; simp only [Act.put, List.setIfInBounds_toArray, List.set_cons_zero, List.set_cons_succ]
  refine plan_pure rfl (fun K hK => quiet_move' _ rfl (hK _ ?_)); clear hK K; simp only [Act.put, Act.eval, Array.getD_eq_getD_getElem?, List.getElem?_toArray, List.getElem?_cons_zero, List.getElem?_cons_succ, Option.getD_some, List.setIfInBounds_toArray, List.set_cons_zero, List.set_cons_succ]
  refine plan_pure rfl (fun K hK => quiet_run (v := ?_) (fun W _ => ?_) (hK _ ?_)); rotate_left; (go_simp <;> with_reducible rfl); clear hK K; simp only [Act.put, List.setIfInBounds_toArray, List.set_cons_zero, List.set_cons_succ]
  refine plan_load rfl (fun K hK => quiet_runK (v := ?_) (fun W => ?_) (hK _ ?_)); rotate_left; (go_simp <;> with_reducible rfl); clear hK K; simp only [Act.put, List.setIfInBounds_toArray, List.set_cons_zero, List.set_cons_succ]
  refine plan_pure rfl (fun K hK => quiet_move' _ rfl (hK _ ?_)); clear hK K; simp only [Act.put, Act.eval, Array.getD_eq_getD_getElem?, List.getElem?_toArray, List.getElem?_cons_zero, List.getElem?_cons_succ, Option.getD_some, List.setIfInBounds_toArray, List.set_cons_zero, List.set_cons_succ]
  refine plan_pure rfl (fun K hK => quiet_run (v := ?_) (fun W _ => ?_) (hK _ ?_)); rotate_left; (go_simp <;> with_reducible rfl); clear hK K; simp only [Act.put, List.setIfInBounds_toArray, List.set_cons_zero, List.set_cons_succ]
  refine plan_pure rfl (fun K hK => quiet_run (v := ?_) (fun W _ => ?_) (hK _ ?_)); rotate_left; (go_simp <;> with_reducible rfl); clear hK K; simp only [Act.put, List.setIfInBounds_toArray, List.set_cons_zero, List.set_cons_succ]
  refine plan_load rfl (fun K hK => quiet_runK (v := ?_) (fun W => ?_) (hK _ ?_)); rotate_left; (go_simp <;> with_reducible rfl); clear hK K; simp only [Act.put, List.setIfInBounds_toArray, List.set_cons_zero, List.set_cons_succ]
  refine plan_does rfl (fun K hK => ?_)
  go_wp2_with fail
  have hd1 : Ext w1 w1.drew := (Keeps.refl NoB w1).drew
  refine (rwithout_any _ _ N i (HV.out.ext (HE.out.ext hd1)) hl (fun k hk => by have := HA.out k hk; have := (HE.out.ext hd1).size; omega) hil).mono ?_
  rintro e w2 ⟨v', rfl, hv', hE2⟩
  have hE02 : Ext w1 w2 := hd1.ext hE2
  have hK02 : Keeps (OneB (w.heap.size + 1)) w1 w2 := Ext.keeps hE02
  obtain ⟨a5, c5, a6, c6, rfl, hp5, hp6⟩ := hv'.args
  have HV' := Lib.hid hv'
  have HB2 := B1.out.ext hE02
  obtain ⟨cB2, zB2⟩ := HB2.reads
  have lB2 := HB2.lt
  clear hp5 hp6 hv' HB2
  refine hK _ _ ⟨ClsK.of (by assumption), ?_⟩; clear hK K; try simp only [Act.put, List.setIfInBounds_toArray, List.set_cons_zero, List.set_cons_succ]
  refine plan_does rfl (fun K hK => ?_)
  go_wp2_with fail
  refine ⟨ClsK.of (by repeat (first | assumption | exact Keeps.refl _ _ | refine Keeps.alloc ?_ _ | refine Keeps.setOne ?_ _ _ | refine Keeps.setCell ?_ _ _ (.inl (by first | rfl | exact .inl rfl | exact .inr rfl | omega)) | refine Keeps.drew ?_)), ?_⟩; try simp only [Act.put]
  refine plan_pure rfl (fun K hK => quiet_assign' _ rfl (hK _ ?_)); clear hK K; simp only [Act.put, Act.eval, Array.getD_eq_getD_getElem?, List.getElem?_toArray, List.getElem?_cons_zero, List.getElem?_cons_succ, Option.getD_some, List.setIfInBounds_toArray, List.set_cons_zero, List.set_cons_succ]
  refine plan_pure rfl (fun K hK => quiet_assign' _ rfl (hK _ ?_)); clear hK K; simp only [Act.put, Act.eval, List.setIfInBounds_toArray, List.set_cons_zero, List.set_cons_succ]
  refine plan_nil ?_; simp only [tailL, List.filterMap_nil]
  go_wp2_with fail
  have HB2 := Lib.hid (B1.out.ext hE02)
  clear cB0 zB0 lB0 cB1 zB1 lB1
  clear cB2 zB2
  have q1 := ((((((HB2.out.set 0 (.int .i64 (NA.ends (N.without i) : Int))).set 1 (.int .i64 (NA.most (N.without i) : Int))).set 2 (.int .i64 (NA.came (N.without i) : Int))).set 3 (.slice a5 (N.without i).l.length c5))).set 4 (.slice a6 (N.without i).downs.length c6))
  dsimp only [List.set_cons_zero, List.set_cons_succ] at q1
  have hk : Keeps (OneB (w.heap.size + 1)) w2 (((((w2.setCell ⟨(w.heap.size + 1), 0, none⟩ (.int .i64 (NA.ends (N.without i) : Int))).setCell ⟨(w.heap.size + 1), 1, none⟩ (.int .i64 (NA.most (N.without i) : Int))).setCell ⟨(w.heap.size + 1), 2, none⟩ (.int .i64 (NA.came (N.without i) : Int))).setCell ⟨(w.heap.size + 1), 3, none⟩ (.slice a5 (N.without i).l.length c5)).setCell ⟨(w.heap.size + 1), 4, none⟩ (.slice a6 (N.without i).downs.length c6)) :=
    (((((Keeps.refl _ _).setOne _ _).setOne _ _).setOne _ _).setOne _ _).setOne _ _
  have q2 := q1.reads.1
  generalize (((((w2.setCell ⟨(w.heap.size + 1), 0, none⟩ (.int .i64 (NA.ends (N.without i) : Int))).setCell ⟨(w.heap.size + 1), 1, none⟩ (.int .i64 (NA.most (N.without i) : Int))).setCell ⟨(w.heap.size + 1), 2, none⟩ (.int .i64 (NA.came (N.without i) : Int))).setCell ⟨(w.heap.size + 1), 3, none⟩ (.slice a5 (N.without i).l.length c5)).setCell ⟨(w.heap.size + 1), 4, none⟩ (.slice a6 (N.without i).downs.length c6)) = w3 at q2 hk ⊢
  have hks := hk.size
  have hEe := HE.out.size
  have hE2s := hE02.size
  refine bodyPost_ret (v := .tuple #[.agg #[.int .i64 ((N.without i).ends : Int), .int .i64 ((N.without i).most : Int), .int .i64 ((N.without i).came : Int), .slice a5 (N.without i).l.length c5, .slice a6 (N.without i).downs.length c6], .int .i64 (x.num : Int), .int .i64 0]) (by simp [results, Try.results50, go_sem, q2]) rfl ⟨_, rfl, ?_, ?_⟩
  · refine (HV'.out.keeps hk (fun k hk' h => ?_)).mono (fun k hk' => ?_)
    · unfold OneB at h
      rcases hk' with h9 | h9
      · have := HA.out k h9; omega
      · have h8 : w1.heap.size ≤ k := h9.1; omega
    · rcases hk' with h9 | h9
      · exact .inl h9
      · have h8 : w1.heap.size ≤ k := h9.1; have h7 := h9.2; exact .inr ⟨by omega, by omega⟩
  · exact (HE.out.ext hE02).then hk (fun i hi h => by unfold OneB at h; omega)
theorem rpeek_err {A : Nat → Prop} (w : World) (v : Value) (N : NA) (f t p : Int) (h : RefV w A v N) (he64 : N.ends ≤ 64) (hl : N.l.length ≤ 4096) (hA : ∀ k, A k → k < w.heap.size) (k : Nat) (hk : N.pickErr f t = k) (h0 : k ≠ 0) :
    Calls Try.prog 48 #[v, .int .i64 f, .int .i64 t, .int .i64 p] w fun e w' => e = .returned (.tuple #[zeroP, .int .i64 (k : Int)]) ∧ Ext w w' := by
  have hz : ((k : Int) != 0) = true := by rw [bne_iff_ne]; omega
  have HK := Lib.hid hk
  clear hk
  have HV := Lib.hid h
  have HA := Lib.hid hA
  obtain ⟨a, c, a', c', rfl, hp, hq⟩ := h.args
  have HP := Lib.hid hp
  have hllen := hl
  clear h hp hq hA
  go_enter Try.func48, Try.ntmps48
  go_wp2_with fail
  have bx0 := ((Box.new w 41 [.int .i64 (N.ends : Int), .int .i64 (N.most : Int), .int .i64 (N.came : Int), .slice a N.l.length c, .slice a' N.downs.length c']).alloc (Obj.cells #[.int .i64 0, .int .i64 0, .int .i64 0, .slice none 0 0] 50))
  have bx1 := (Box.new (w.alloc (Obj.cells #[.int .i64 (N.ends : Int), .int .i64 (N.most : Int), .int .i64 (N.came : Int), .slice a N.l.length c, .slice a' N.downs.length c'] 41)) 50 [.int .i64 0, .int .i64 0, .int .i64 0, .slice none 0 0])
  have ex : Ext w ((w.alloc (Obj.cells #[.int .i64 (N.ends : Int), .int .i64 (N.most : Int), .int .i64 (N.came : Int), .slice a N.l.length c, .slice a' N.downs.length c'] 41)).alloc (Obj.cells #[.int .i64 0, .int .i64 0, .int .i64 0, .slice none 0 0] 50)) := (((Keeps.refl NoB w).alloc _).alloc _)
  have sx : ((w.alloc (Obj.cells #[.int .i64 (N.ends : Int), .int .i64 (N.most : Int), .int .i64 (N.came : Int), .slice a N.l.length c, .slice a' N.downs.length c'] 41)).alloc (Obj.cells #[.int .i64 0, .int .i64 0, .int .i64 0, .slice none 0 0] 50)).heap.size = w.heap.size + 2 := by simp
  simp only [World.size_alloc] at bx1
  generalize ((w.alloc (Obj.cells #[.int .i64 (N.ends : Int), .int .i64 (N.most : Int), .int .i64 (N.came : Int), .slice a N.l.length c, .slice a' N.downs.length c'] 41)).alloc (Obj.cells #[.int .i64 0, .int .i64 0, .int .i64 0, .slice none 0 0] 50)) = w0 at bx0 bx1 ex sx ⊢
  have Sx := Lib.hid sx
  clear sx
  have B1 := Lib.hid bx1
  have HE := Lib.hid ex
  clear ex bx0 bx1
  refine (rpick_err w0 _ N f t p (HV.out.ext HE.out) he64 hl (fun k hk => Nat.lt_of_lt_of_le (HA.out k hk) HE.out.size) k HK.out h0).mono ?_
  rintro e w1 ⟨rfl, hE⟩
  replace HE := Lib.hid (HE.out.ext hE)
  replace B1 := Lib.hid (B1.out.ext hE)
  clear hE
  obtain ⟨cB1, zB1⟩ := B1.out.reads
  have lB1 := B1.out.lt
  go_wp2_with fail
  have q1 := ((((B1.out.set 0 (.int .i64 0)).set 1 (.int .i64 0)).set 2 (.int .i64 0)).set 3 (.slice none 0 0))
  dsimp only [List.set_cons_zero, List.set_cons_succ] at q1
  have hk : Keeps (OneB (w.heap.size + 1)) w1 ((((w1.setCell ⟨(w.heap.size + 1), 0, none⟩ (.int .i64 0)).setCell ⟨(w.heap.size + 1), 1, none⟩ (.int .i64 0)).setCell ⟨(w.heap.size + 1), 2, none⟩ (.int .i64 0)).setCell ⟨(w.heap.size + 1), 3, none⟩ (.slice none 0 0)) :=
    ((((Keeps.refl _ _).setOne _ _).setOne _ _).setOne _ _).setOne _ _
  have q2 := q1.reads.1
  generalize ((((w1.setCell ⟨(w.heap.size + 1), 0, none⟩ (.int .i64 0)).setCell ⟨(w.heap.size + 1), 1, none⟩ (.int .i64 0)).setCell ⟨(w.heap.size + 1), 2, none⟩ (.int .i64 0)).setCell ⟨(w.heap.size + 1), 3, none⟩ (.slice none 0 0)) = w2 at q2 hk ⊢
  have hks := hk.size
  clear cB1 zB1 lB1
  refine bodyPost_ret (v := .tuple #[zeroP, .int .i64 (k : Int)]) (by simp [results, Try.results48, go_sem, q2, zeroP]) rfl ⟨rfl, ?_⟩
  exact HE.out.then hk (fun i hi h => by unfold OneB at h; omega)
set_option maxHeartbeats 1000000 in
theorem rpeek_down {A : Nat → Prop} (w : World) (v : Value) (N : NA) (f t p : Int) (h : RefV w A v N) (he64 : N.ends ≤ 64) (hl : N.l.length ≤ 4096) (hdl : N.downs.length ≤ 10000) (hA : ∀ k, A k → k < w.heap.size) (hpp : I64 p) (hk : N.pickErr f t = 0)
    (hdn : decide (((N.got f t p).src, (N.got f t p).dst) ∈ N.downs) = true) :
    Calls Try.prog 48 #[v, .int .i64 f, .int .i64 t, .int .i64 p] w fun e w' => e = .returned (.tuple #[zeroP, .int .i64 210]) ∧ Ext w w' := by
  have hgot := NA.got_at (p := p) hk
  obtain ⟨hil, hxi⟩ := List.getElem?_eq_some_iff.1 hgot
  have HXI := Lib.hid hxi
  have HK := Lib.hid hk
  clear hk hgot hxi
  have HV := Lib.hid h
  have HA := Lib.hid hA
  obtain ⟨a, c, a', c', rfl, hp, hq⟩ := h.args
  have HP := Lib.hid hp
  have hllen := hl
  clear h hp hq hA
  obtain ⟨-, hat⟩ := HP.out.at
  obtain ⟨g, o, rfl, hc, hAg, hpar⟩ := hat (N.iOf f t p) hil
  have hgl := HA.out g hAg
  rw [HXI.out] at hpar
  obtain ⟨i0, i1, i2, a3, n3, i3, i4⟩ := hpar.reads
  have HI4 := Lib.hid i4
  clear hat hpar i4
  obtain ⟨x, hx⟩ : ∃ x, N.got f t p = x := ⟨_, rfl⟩
  rw [hx] at i0 i1 i2 i3 HI4 hdn
  try rw [hx]
  obtain ⟨i, hi⟩ : ∃ i, N.iOf f t p = i := ⟨_, rfl⟩
  rw [hi] at i0 i1 i2 i3 hil
  have HI := Lib.hid hi
  clear hx hi
  go_enter Try.func48, Try.ntmps48
  go_wp2_with fail
  have by0 := ((Box.new w 41 [.int .i64 (N.ends : Int), .int .i64 (N.most : Int), .int .i64 (N.came : Int), .slice (some ⟨g, o, none⟩) N.l.length c, .slice a' N.downs.length c']).alloc (Obj.cells #[.int .i64 0, .int .i64 0, .int .i64 0, .slice none 0 0] 50))
  have by1 := (Box.new (w.alloc (Obj.cells #[.int .i64 (N.ends : Int), .int .i64 (N.most : Int), .int .i64 (N.came : Int), .slice (some ⟨g, o, none⟩) N.l.length c, .slice a' N.downs.length c'] 41)) 50 [.int .i64 0, .int .i64 0, .int .i64 0, .slice none 0 0])
  have ey : Ext w ((w.alloc (Obj.cells #[.int .i64 (N.ends : Int), .int .i64 (N.most : Int), .int .i64 (N.came : Int), .slice (some ⟨g, o, none⟩) N.l.length c, .slice a' N.downs.length c'] 41)).alloc (Obj.cells #[.int .i64 0, .int .i64 0, .int .i64 0, .slice none 0 0] 50)) := (((Keeps.refl NoB w).alloc _).alloc _)
  have sy : ((w.alloc (Obj.cells #[.int .i64 (N.ends : Int), .int .i64 (N.most : Int), .int .i64 (N.came : Int), .slice (some ⟨g, o, none⟩) N.l.length c, .slice a' N.downs.length c'] 41)).alloc (Obj.cells #[.int .i64 0, .int .i64 0, .int .i64 0, .slice none 0 0] 50)).heap.size = w.heap.size + 2 := by simp
  simp only [World.size_alloc] at by1
  generalize ((w.alloc (Obj.cells #[.int .i64 (N.ends : Int), .int .i64 (N.most : Int), .int .i64 (N.came : Int), .slice (some ⟨g, o, none⟩) N.l.length c, .slice a' N.downs.length c'] 41)).alloc (Obj.cells #[.int .i64 0, .int .i64 0, .int .i64 0, .slice none 0 0] 50)) = w0 at by0 by1 ey sy ⊢
  have Sy := Lib.hid sy
  clear sy
  have B0 := Lib.hid by0
  have B1 := Lib.hid by1
  have HE := Lib.hid ey
  have hs0 := by1.lt
  clear ey by0 by1
  refine (rpick_ok w0 _ N f t p (HV.out.ext HE.out) he64 hl (fun k hk => Nat.lt_of_lt_of_le (HA.out k hk) HE.out.size) hpp HK.out).mono ?_
  rintro e w1 ⟨rfl, hE⟩
  rw [HI.out]
  have h01 := hE.size
  replace HE := Lib.hid (HE.out.ext hE)
  replace B0 := Lib.hid (B0.out.ext hE)
  replace B1 := Lib.hid (B1.out.ext hE)
  replace i0 := Ext.cell HE.out i0
  replace i1 := Ext.cell HE.out i1
  replace i2 := Ext.cell HE.out i2
  replace i3 := Ext.cell HE.out i3
  have hgl1 : g < w1.heap.size := by have := HE.out.size; omega
  have hi4 : (i : Int) < (N.l.length : Int) := by omega
  clear hE
  obtain ⟨cB0, zB0⟩ := B0.out.reads
  have lB0 := B0.out.lt
  obtain ⟨cB1, zB1⟩ := B1.out.reads
  have lB1 := B1.out.lt
  go_wp2_with fail
  have hE0 : Keeps NoB w1 w1.drew := (Keeps.refl _ _).drew
  refine wp_region_plan [(3, 0), (0, 1), (3, 2), (0, 3), (0, 4), (0, 5), (3, 6), (0, 7), (3, 8), (0, 9), (0, 10), (0, 11), (3, 12)] [] [13] [13] (ClsE w1) (by kernel_rfl) (by kernel_rfl) (by kernel_rfl) rfl rfl (ClsE.of hE0) (fun _ _ _ d _ h => by cases d <;> exact h) ?_; simp only [planL, List.getElem?_toArray, List.getElem?_cons_succ, List.getElem?_cons_zero]
  refine plan_exact rfl (fun K hK => quiet_runX (v := ?_) ?_ (hK _ ?_)); rotate_left; (go_simp <;> with_reducible rfl); clear hK K; simp only [Act.put, List.setIfInBounds_toArray, List.set_cons_zero, List.set_cons_succ]
  refine plan_pure rfl (fun K hK => quiet_run (v := ?_) (fun W _ => ?_) (hK _ ?_)); rotate_left; (go_simp <;> with_reducible rfl); clear hK K; simp only [Act.put, List.setIfInBounds_toArray, List.set_cons_zero, List.set_cons_succ]
  refine plan_exact rfl (fun K hK => quiet_runX (v := ?_) ?_ (hK _ ?_)); rotate_left; (go_simp <;> with_reducible rfl); clear hK K; simp only [Act.put, List.setIfInBounds_toArray, List.set_cons_zero, List.set_cons_succ]
  refine plan_pure rfl (fun K hK => quiet_move' _ rfl (hK _ ?_)); clear hK K; simp only [Act.put, Act.eval, Array.getD_eq_getD_getElem?, List.getElem?_toArray, List.getElem?_cons_zero, List.getElem?_cons_succ, Option.getD_some, List.setIfInBounds_toArray, List.set_cons_zero, List.set_cons_succ]
  refine plan_pure rfl (fun K hK => quiet_run (v := ?_) (fun W _ => ?_) (hK _ ?_)); rotate_left; (go_simp <;> with_reducible rfl); clear hK K; simp only [Act.put, List.setIfInBounds_toArray, List.set_cons_zero, List.set_cons_succ]
  refine plan_pure rfl (fun K hK => quiet_run (v := ?_) (fun W _ => ?_) (hK _ ?_)); rotate_left; (go_simp <;> with_reducible rfl); clear hK K; simp only [Act.put, List.setIfInBounds_toArray, List.set_cons_zero, List.set_cons_succ]
  refine plan_exact rfl (fun K hK => quiet_runX (v := ?_) ?_ (hK _ ?_)); rotate_left; (go_simp <;> with_reducible rfl); clear hK K; simp only [Act.put, List.setIfInBounds_toArray, List.set_cons_zero, List.set_cons_succ]
  refine plan_pure rfl (fun K hK => quiet_run (v := ?_) (fun W _ => ?_) (hK _ ?_)); rotate_left; (go_simp <;> with_reducible rfl); clear hK K; simp only [Act.put, List.setIfInBounds_toArray, List.set_cons_zero, List.set_cons_succ]
  refine plan_exact rfl (fun K hK => quiet_runX (v := ?_) ?_ (hK _ ?_)); rotate_left; (go_simp <;> with_reducible rfl); clear hK K; simp only [Act.put, List.setIfInBounds_toArray, List.set_cons_zero, List.set_cons_succ]
  refine plan_pure rfl (fun K hK => quiet_move' _ rfl (hK _ ?_)); clear hK K; simp only [Act.put, Act.eval, Array.getD_eq_getD_getElem?, List.getElem?_toArray, List.getElem?_cons_zero, List.getElem?_cons_succ, Option.getD_some, List.setIfInBounds_toArray, List.set_cons_zero, List.set_cons_succ]
  refine plan_pure rfl (fun K hK => quiet_run (v := ?_) (fun W _ => ?_) (hK _ ?_)); rotate_left; (go_simp <;> with_reducible rfl); clear hK K; simp only [Act.put, List.setIfInBounds_toArray, List.set_cons_zero, List.set_cons_succ]
  refine plan_pure rfl (fun K hK => quiet_run (v := ?_) (fun W _ => ?_) (hK _ ?_)); rotate_left; (go_simp <;> with_reducible rfl); clear hK K; simp only [Act.put, List.setIfInBounds_toArray, List.set_cons_zero, List.set_cons_succ]
  refine plan_exact rfl (fun K hK => quiet_runX (v := ?_) ?_ (hK _ ?_)); rotate_left; (go_simp <;> with_reducible rfl); clear hK K; simp only [Act.put, List.setIfInBounds_toArray, List.set_cons_zero, List.set_cons_succ]
  refine plan_nil ?_; simp only [tailL, List.filterMap_cons, List.filterMap_nil, List.getElem?_toArray, List.getElem?_cons_succ, List.getElem?_cons_zero]; change wpList _ _ _ (_ :: []) _ _
  go_wp2_with fail
  refine (risdown_any _ _ N x.src x.dst (HV.out.ext (HE.out.ext hE0)) hdl (fun k hk => by have := HA.out k hk; have := (HE.out.ext hE0).size; omega)).mono ?_
  rintro e w2 ⟨rfl, hE2⟩
  have hE02 := hE0.ext hE2
  have h12 := hE02.size
  rw [hdn]
  have HB0 := Lib.hid (B0.out.ext hE02)
  have HB1 := Lib.hid (B1.out.ext hE02)
  replace HE := Lib.hid (HE.out.ext hE02)
  replace i0 := Ext.cell hE02 i0
  replace i1 := Ext.cell hE02 i1
  replace i2 := Ext.cell hE02 i2
  replace i3 := Ext.cell hE02 i3
  have hgl2 : g < w2.heap.size := by omega
  clear cB0 zB0 lB0 cB1 zB1 lB1
  obtain ⟨cHB0, zHB0⟩ := HB0.out.reads
  have lHB0 := HB0.out.lt
  obtain ⟨cHB1, zHB1⟩ := HB1.out.reads
  have lHB1 := HB1.out.lt
  go_wp2_with fail
  have q1 := ((((HB1.out.set 0 (.int .i64 0)).set 1 (.int .i64 0)).set 2 (.int .i64 0)).set 3 (.slice none 0 0))
  dsimp only [List.set_cons_zero, List.set_cons_succ] at q1
  have hk : Keeps (OneB (w.heap.size + 1)) w2 ((((w2.setCell ⟨(w.heap.size + 1), 0, none⟩ (.int .i64 0)).setCell ⟨(w.heap.size + 1), 1, none⟩ (.int .i64 0)).setCell ⟨(w.heap.size + 1), 2, none⟩ (.int .i64 0)).setCell ⟨(w.heap.size + 1), 3, none⟩ (.slice none 0 0)) :=
    ((((Keeps.refl _ _).setOne _ _).setOne _ _).setOne _ _).setOne _ _
  have q2 := q1.reads.1
  generalize ((((w2.setCell ⟨(w.heap.size + 1), 0, none⟩ (.int .i64 0)).setCell ⟨(w.heap.size + 1), 1, none⟩ (.int .i64 0)).setCell ⟨(w.heap.size + 1), 2, none⟩ (.int .i64 0)).setCell ⟨(w.heap.size + 1), 3, none⟩ (.slice none 0 0)) = w3 at q2 hk ⊢
  have hks := hk.size
  clear cHB0 zHB0 lHB0 cHB1 zHB1 lHB1
  refine bodyPost_ret (v := .tuple #[zeroP, .int .i64 210]) (by simp [results, Try.results48, go_sem, q2, zeroP]) rfl ⟨rfl, ?_⟩
  exact HE.out.then hk (fun i hi h => by unfold OneB at h; omega)
set_option maxHeartbeats 1000000 in
theorem rpeek_ok {A : Nat → Prop} (w : World) (v : Value) (N : NA) (f t p : Int) (h : RefV w A v N) (he64 : N.ends ≤ 64) (hl : N.l.length ≤ 4096) (hdl : N.downs.length ≤ 10000) (hA : ∀ k, A k → k < w.heap.size) (hpp : I64 p) (hk : N.pickErr f t = 0)
    (hdn : decide (((N.got f t p).src, (N.got f t p).dst) ∈ N.downs) = false) :
    Calls Try.prog 48 #[v, .int .i64 f, .int .i64 t, .int .i64 p] w fun e w' => ∃ vx, e = .returned (.tuple #[vx, .int .i64 0]) ∧ ParV w' A vx (N.got f t p) ∧ Ext w w' := by
  have hgot := NA.got_at (p := p) hk
  obtain ⟨hil, hxi⟩ := List.getElem?_eq_some_iff.1 hgot
  have HXI := Lib.hid hxi
  have HK := Lib.hid hk
  clear hk hgot hxi
  have HV := Lib.hid h
  have HA := Lib.hid hA
  obtain ⟨a, c, a', c', rfl, hp, hq⟩ := h.args
  have HP := Lib.hid hp
  have hllen := hl
  clear h hp hq hA
  obtain ⟨-, hat⟩ := HP.out.at
  obtain ⟨g, o, rfl, hc, hAg, hpar⟩ := hat (N.iOf f t p) hil
  have hgl := HA.out g hAg
  rw [HXI.out] at hpar
  obtain ⟨i0, i1, i2, a3, n3, i3, i4⟩ := hpar.reads
  have HI4 := Lib.hid i4
  clear hat hpar i4
  obtain ⟨x, hx⟩ : ∃ x, N.got f t p = x := ⟨_, rfl⟩
  rw [hx] at i0 i1 i2 i3 HI4 hdn
  try rw [hx]
  obtain ⟨i, hi⟩ : ∃ i, N.iOf f t p = i := ⟨_, rfl⟩
  rw [hi] at i0 i1 i2 i3 hil
  have HI := Lib.hid hi
  clear hx hi
  go_enter Try.func48, Try.ntmps48
  go_wp2_with fail
  have by0 := ((Box.new w 41 [.int .i64 (N.ends : Int), .int .i64 (N.most : Int), .int .i64 (N.came : Int), .slice (some ⟨g, o, none⟩) N.l.length c, .slice a' N.downs.length c']).alloc (Obj.cells #[.int .i64 0, .int .i64 0, .int .i64 0, .slice none 0 0] 50))
  have by1 := (Box.new (w.alloc (Obj.cells #[.int .i64 (N.ends : Int), .int .i64 (N.most : Int), .int .i64 (N.came : Int), .slice (some ⟨g, o, none⟩) N.l.length c, .slice a' N.downs.length c'] 41)) 50 [.int .i64 0, .int .i64 0, .int .i64 0, .slice none 0 0])
  have ey : Ext w ((w.alloc (Obj.cells #[.int .i64 (N.ends : Int), .int .i64 (N.most : Int), .int .i64 (N.came : Int), .slice (some ⟨g, o, none⟩) N.l.length c, .slice a' N.downs.length c'] 41)).alloc (Obj.cells #[.int .i64 0, .int .i64 0, .int .i64 0, .slice none 0 0] 50)) := (((Keeps.refl NoB w).alloc _).alloc _)
  have sy : ((w.alloc (Obj.cells #[.int .i64 (N.ends : Int), .int .i64 (N.most : Int), .int .i64 (N.came : Int), .slice (some ⟨g, o, none⟩) N.l.length c, .slice a' N.downs.length c'] 41)).alloc (Obj.cells #[.int .i64 0, .int .i64 0, .int .i64 0, .slice none 0 0] 50)).heap.size = w.heap.size + 2 := by simp
  simp only [World.size_alloc] at by1
  generalize ((w.alloc (Obj.cells #[.int .i64 (N.ends : Int), .int .i64 (N.most : Int), .int .i64 (N.came : Int), .slice (some ⟨g, o, none⟩) N.l.length c, .slice a' N.downs.length c'] 41)).alloc (Obj.cells #[.int .i64 0, .int .i64 0, .int .i64 0, .slice none 0 0] 50)) = w0 at by0 by1 ey sy ⊢
  have Sy := Lib.hid sy
  clear sy
  have B0 := Lib.hid by0
  have B1 := Lib.hid by1
  have HE := Lib.hid ey
  have hs0 := by1.lt
  clear ey by0 by1
  refine (rpick_ok w0 _ N f t p (HV.out.ext HE.out) he64 hl (fun k hk => Nat.lt_of_lt_of_le (HA.out k hk) HE.out.size) hpp HK.out).mono ?_
  rintro e w1 ⟨rfl, hE⟩
  rw [HI.out]
  have h01 := hE.size
  replace HE := Lib.hid (HE.out.ext hE)
  replace B0 := Lib.hid (B0.out.ext hE)
  replace B1 := Lib.hid (B1.out.ext hE)
  replace i0 := Ext.cell HE.out i0
  replace i1 := Ext.cell HE.out i1
  replace i2 := Ext.cell HE.out i2
  replace i3 := Ext.cell HE.out i3
  have hgl1 : g < w1.heap.size := by have := HE.out.size; omega
  have hi4 : (i : Int) < (N.l.length : Int) := by omega
  clear hE
  obtain ⟨cB0, zB0⟩ := B0.out.reads
  have lB0 := B0.out.lt
  obtain ⟨cB1, zB1⟩ := B1.out.reads
  have lB1 := B1.out.lt
  go_wp2_with fail
  have hE0 : Keeps NoB w1 w1.drew := (Keeps.refl _ _).drew
  refine wp_region_plan [(3, 0), (0, 1), (3, 2), (0, 3), (0, 4), (0, 5), (3, 6), (0, 7), (3, 8), (0, 9), (0, 10), (0, 11), (3, 12)] [] [13] [13] (ClsE w1) (by kernel_rfl) (by kernel_rfl) (by kernel_rfl) rfl rfl (ClsE.of hE0) (fun _ _ _ d _ h => by cases d <;> exact h) ?_; simp only [planL, List.getElem?_toArray, List.getElem?_cons_succ, List.getElem?_cons_zero]
  refine plan_exact rfl (fun K hK => quiet_runX (v := ?_) ?_ (hK _ ?_)); rotate_left; (go_simp <;> with_reducible rfl); clear hK K; simp only [Act.put, List.setIfInBounds_toArray, List.set_cons_zero, List.set_cons_succ]
  refine plan_pure rfl (fun K hK => quiet_run (v := ?_) (fun W _ => ?_) (hK _ ?_)); rotate_left; (go_simp <;> with_reducible rfl); clear hK K; simp only [Act.put, List.setIfInBounds_toArray, List.set_cons_zero, List.set_cons_succ]
  refine plan_exact rfl (fun K hK => quiet_runX (v := ?_) ?_ (hK _ ?_)); rotate_left; (go_simp <;> with_reducible rfl); clear hK K; simp only [Act.put, List.setIfInBounds_toArray, List.set_cons_zero, List.set_cons_succ]
  refine plan_pure rfl (fun K hK => quiet_move' _ rfl (hK _ ?_)); clear hK K; simp only [Act.put, Act.eval, Array.getD_eq_getD_getElem?, List.getElem?_toArray, List.getElem?_cons_zero, List.getElem?_cons_succ, Option.getD_some, List.setIfInBounds_toArray, List.set_cons_zero, List.set_cons_succ]
  refine plan_pure rfl (fun K hK => quiet_run (v := ?_) (fun W _ => ?_) (hK _ ?_)); rotate_left; (go_simp <;> with_reducible rfl); clear hK K; simp only [Act.put, List.setIfInBounds_toArray, List.set_cons_zero, List.set_cons_succ]
  refine plan_pure rfl (fun K hK => quiet_run (v := ?_) (fun W _ => ?_) (hK _ ?_)); rotate_left; (go_simp <;> with_reducible rfl); clear hK K; simp only [Act.put, List.setIfInBounds_toArray, List.set_cons_zero, List.set_cons_succ]
  refine plan_exact rfl (fun K hK => quiet_runX (v := ?_) ?_ (hK _ ?_)); rotate_left; (go_simp <;> with_reducible rfl); clear hK K; simp only [Act.put, List.setIfInBounds_toArray, List.set_cons_zero, List.set_cons_succ]
  refine plan_pure rfl (fun K hK => quiet_run (v := ?_) (fun W _ => ?_) (hK _ ?_)); rotate_left; (go_simp <;> with_reducible rfl); clear hK K; simp only [Act.put, List.setIfInBounds_toArray, List.set_cons_zero, List.set_cons_succ]
  refine plan_exact rfl (fun K hK => quiet_runX (v := ?_) ?_ (hK _ ?_)); rotate_left; (go_simp <;> with_reducible rfl); clear hK K; simp only [Act.put, List.setIfInBounds_toArray, List.set_cons_zero, List.set_cons_succ]
  refine plan_pure rfl (fun K hK => quiet_move' _ rfl (hK _ ?_)); clear hK K; simp only [Act.put, Act.eval, Array.getD_eq_getD_getElem?, List.getElem?_toArray, List.getElem?_cons_zero, List.getElem?_cons_succ, Option.getD_some, List.setIfInBounds_toArray, List.set_cons_zero, List.set_cons_succ]
  refine plan_pure rfl (fun K hK => quiet_run (v := ?_) (fun W _ => ?_) (hK _ ?_)); rotate_left; (go_simp <;> with_reducible rfl); clear hK K; simp only [Act.put, List.setIfInBounds_toArray, List.set_cons_zero, List.set_cons_succ]
  refine plan_pure rfl (fun K hK => quiet_run (v := ?_) (fun W _ => ?_) (hK _ ?_)); rotate_left; (go_simp <;> with_reducible rfl); clear hK K; simp only [Act.put, List.setIfInBounds_toArray, List.set_cons_zero, List.set_cons_succ]
  refine plan_exact rfl (fun K hK => quiet_runX (v := ?_) ?_ (hK _ ?_)); rotate_left; (go_simp <;> with_reducible rfl); clear hK K; simp only [Act.put, List.setIfInBounds_toArray, List.set_cons_zero, List.set_cons_succ]
  refine plan_nil ?_; simp only [tailL, List.filterMap_cons, List.filterMap_nil, List.getElem?_toArray, List.getElem?_cons_succ, List.getElem?_cons_zero]; change wpList _ _ _ (_ :: []) _ _
  go_wp2_with fail
  refine (risdown_any _ _ N x.src x.dst (HV.out.ext (HE.out.ext hE0)) hdl (fun k hk => by have := HA.out k hk; have := (HE.out.ext hE0).size; omega)).mono ?_
  rintro e w2 ⟨rfl, hE2⟩
  have hE02 := hE0.ext hE2
  have h12 := hE02.size
  rw [hdn]
  have HB0 := Lib.hid (B0.out.ext hE02)
  have HB1 := Lib.hid (B1.out.ext hE02)
  replace HE := Lib.hid (HE.out.ext hE02)
  replace i0 := Ext.cell hE02 i0
  replace i1 := Ext.cell hE02 i1
  replace i2 := Ext.cell hE02 i2
  replace i3 := Ext.cell hE02 i3
  have hgl2 : g < w2.heap.size := by omega
  clear cB0 zB0 lB0 cB1 zB1 lB1
  obtain ⟨cHB0, zHB0⟩ := HB0.out.reads
  have lHB0 := HB0.out.lt
  obtain ⟨cHB1, zHB1⟩ := HB1.out.reads
  have lHB1 := HB1.out.lt
  go_wp2_with fail
  have q1 := ((((HB1.out.set 0 (.int .i64 (x.num : Int))).set 1 (.int .i64 x.src)).set 2 (.int .i64 x.dst)).set 3 (.slice a3 x.bytes.length n3))
  dsimp only [List.set_cons_zero, List.set_cons_succ] at q1
  have hk : Keeps (OneB (w.heap.size + 1)) w2 ((((w2.setCell ⟨(w.heap.size + 1), 0, none⟩ (.int .i64 (x.num : Int))).setCell ⟨(w.heap.size + 1), 1, none⟩ (.int .i64 x.src)).setCell ⟨(w.heap.size + 1), 2, none⟩ (.int .i64 x.dst)).setCell ⟨(w.heap.size + 1), 3, none⟩ (.slice a3 x.bytes.length n3)) :=
    ((((Keeps.refl _ _).setOne _ _).setOne _ _).setOne _ _).setOne _ _
  have q2 := q1.reads.1
  generalize ((((w2.setCell ⟨(w.heap.size + 1), 0, none⟩ (.int .i64 (x.num : Int))).setCell ⟨(w.heap.size + 1), 1, none⟩ (.int .i64 x.src)).setCell ⟨(w.heap.size + 1), 2, none⟩ (.int .i64 x.dst)).setCell ⟨(w.heap.size + 1), 3, none⟩ (.slice a3 x.bytes.length n3)) = w3 at q2 hk ⊢
  have hks := hk.size
  clear cHB0 zHB0 lHB0 cHB1 zHB1 lHB1
  refine bodyPost_ret (v := .tuple #[.agg #[.int .i64 (x.num : Int), .int .i64 x.src, .int .i64 x.dst, .slice a3 x.bytes.length n3], .int .i64 0]) (by simp [results, Try.results48, go_sem, q2]) rfl ⟨_, rfl, ⟨_, rfl, ?_⟩, ?_⟩
  · exact (HI4.out.ext HE.out).keeps hk (fun k hk' h => by unfold OneB at h; have := HA.out k hk'; omega)
  · exact HE.out.then hk (fun i hi h => by unfold OneB at h; omega)
end Go.Proofs.Ytdiogipdcpiffaa
