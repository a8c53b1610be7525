/- Whether an entry counts, and how its member stands then. Condition: the talk lies as 'TalkAt' says; the entry's member is one of sixteen. -/
import Derived.Test.YthhdgjofagdjeaaDoorJG
set_option linter.unusedVariables false
set_option linter.unusedSimpArgs false
set_option maxHeartbeats 1000000
set_option maxRecDepth 10000
namespace Go.Proofs.YthhdgjofagdjeaaDoor
open Go.RowKit

def TA.of (T : TA) (m : Nat) : St := T.st.getD m ⟨false, 0, 0⟩
def countsR (T : TA) (e : En) : St × Bool :=
  if e.kind = 2 then (⟨true, (T.l.length : Int), (T.of e.member.toNat).last⟩, !(T.of e.member.toNat).inn)
  else if e.kind = 3 then (⟨false, (T.of e.member.toNat).joined, (T.of e.member.toNat).last⟩, (T.of e.member.toNat).inn)
  else if e.kind = 4 then (⟨(T.of e.member.toNat).inn, (T.of e.member.toNat).joined, e.number⟩, saysB (T.of e.member.toNat) e)
  else (⟨false, 0, 0⟩, false)
theorem TalkAt.st {w : World} {F : Nat → Prop} {b : Nat} {v : Value} {T : TA} (h : TalkAt w F b v T) (m : Nat) (hm : m < 16) :
    w.cell? ⟨b, 2 + m * 3, none⟩ = some (.bool (T.of m).inn) ∧ w.cell? ⟨b, 2 + m * 3 + 1, none⟩ = some (.int .i64 (T.of m).joined) ∧ w.cell? ⟨b, 2 + m * 3 + 2, none⟩ = some (.int .i64 (T.of m).last) := by
  have hl := stsC_len T.st
  have h1 := h.box.reads.1
  have hs := h.sts
  have key : ∀ j, j < 3 → w.cell? ⟨b, 2 + m * 3 + j, none⟩ = ((T.of m).cells)[j]? := by
    intro j hj
    rw [h1]
    have e1 : 2 + m * 3 + j = (m * 3 + j) + 1 + 1 := by omega
    rw [e1]
    show ((stsC T.st ++ [.bool true]) : List Value)[m * 3 + j]? = _
    rw [List.getElem?_append_left (by omega), stsC_get T.st m j (by omega) hj]
    have : T.of m = T.st[m] := by
      unfold TA.of
      rw [List.getD_eq_getElem?_getD, List.getElem?_eq_getElem (by omega)]; rfl
    rw [this]
  exact ⟨key 0 (by decide), key 1 (by decide), key 2 (by decide)⟩
def countD : List (Int × Value) := [(2, .func (.func 69) #[] #[]), (3, .func (.func 70) #[] #[]), (4, .func (.func 71) #[] #[])]
theorem look_count (k : Int) (z : Value) : (k = 2 ∧ lookI countD k z = (.func (.func 69) #[] #[], true)) ∨ ((k ≠ 2 ∧ k = 3) ∧ lookI countD k z = (.func (.func 70) #[] #[], true)) ∨
    ((k ≠ 2 ∧ k ≠ 3 ∧ k = 4) ∧ lookI countD k z = (.func (.func 71) #[] #[], true)) ∨ ((k ≠ 2 ∧ k ≠ 3 ∧ k ≠ 4) ∧ lookI countD k z = (z, false)) := by
  by_cases h1 : k = 2
  · exact .inl ⟨h1, by rw [h1]; rfl⟩
  by_cases h2 : k = 3
  · exact .inr (.inl ⟨⟨h1, h2⟩, by rw [h2]; rfl⟩)
  by_cases h4 : k = 4
  · exact .inr (.inr (.inl ⟨⟨h1, h2, h4⟩, by rw [h4]; rfl⟩))
  · refine .inr (.inr (.inr ⟨⟨h1, h2, h4⟩, ?_⟩))
    unfold lookI countD
    have a1 : ¬ (2 : Int) = k := fun h => h1 h.symm
    have a2 : ¬ (3 : Int) = k := fun h => h2 h.symm
    have a3 : ¬ (4 : Int) = k := fun h => h4 h.symm
    simp [a1, a2, a3]
theorem zeroFn3 (w : World) : (zeroValue 119).run Tryd.prog w = .ok nofn w := by kernel_rfl
theorem counts_any {F : Nat → Prop} (w : World) (b : Nat) (T : TA) (kind : Int) (m : Nat) (number : Int) (text : List UInt8) (h : TalkX w F b T) (hm : m < 16) (hI : I64 kind) :
    Calls Tryd.prog 56 #[.pointer (some ⟨b, 0, none⟩), (⟨kind, m, number, text⟩ : En).v] w fun r w' => r = .returned (.tuple #[(countsR T ⟨kind, m, number, text⟩).1.v, .bool (countsR T ⟨kind, m, number, text⟩).2]) ∧ Ext w w' := by
  have HT := Lib.hid h
  have HM := Lib.hid hm
  have HI := Lib.hid hI
  have HLT := Lib.hid (show b < w.heap.size from let ⟨_, h⟩ := h; h.box.lt)
  clear h hm hI
  unfold En.v
  go_enter Tryd.func56, Tryd.ntmps56
  go_wp2_with fail
  have bx0 := ((Box.new w 35 [.int .i64 kind, .int .i64 (m : Int), .int .i64 number, .string (bs text)]).alloc (Obj.cells #[.bool false, .int .i64 0, .int .i64 0] 90))
  have bx1 := (Box.new (w.alloc (Obj.cells #[.int .i64 kind, .int .i64 (m : Int), .int .i64 number, .string (bs text)] 35)) 90 [.bool false, .int .i64 0, .int .i64 0])
  have ex : Ext w ((w.alloc (Obj.cells #[.int .i64 kind, .int .i64 (m : Int), .int .i64 number, .string (bs text)] 35)).alloc (Obj.cells #[.bool false, .int .i64 0, .int .i64 0] 90)) := (((Keeps.refl NoB w).alloc _).alloc _)
  have sx : ((w.alloc (Obj.cells #[.int .i64 kind, .int .i64 (m : Int), .int .i64 number, .string (bs text)] 35)).alloc (Obj.cells #[.bool false, .int .i64 0, .int .i64 0] 90)).heap.size = w.heap.size + 2 := by simp
  simp only [World.size_alloc] at bx1
  generalize ((w.alloc (Obj.cells #[.int .i64 kind, .int .i64 (m : Int), .int .i64 number, .string (bs text)] 35)).alloc (Obj.cells #[.bool false, .int .i64 0, .int .i64 0] 90)) = w0 at bx0 bx1 ex sx ⊢
  have Sx := Lib.hid sx
  clear sx
  have hmm := run_makeMap (P := Tryd.prog) 122 w0
  have put := fun (w : World) (D : List (Int × Value)) (m : Nat) (h : MapI w m D) (n : Int) (hn : I64 n) (hne : ∀ p ∈ D, p.1 ≠ n) (v : Value) => h.put Tryd.underlying122 Tryd.underlying33 hn hne v
  obtain ⟨w1, r1, m1, k1⟩ := put _ _ _ (mapi_new w0) 2 (i64_lit 2 rfl) (by simp) (.func (.func 69) #[] #[])
  obtain ⟨w2, r2, m2, k2⟩ := put _ _ _ m1 3 (i64_lit 3 rfl) (by simp) (.func (.func 70) #[] #[])
  obtain ⟨w4, r3, m3, k3⟩ := put _ _ _ m2 4 (i64_lit 4 rfl) (by simp) (.func (.func 71) #[] #[])
  have hE4 : Ext w0 w4 := ((Keeps.refl NoB w0).alloc _).then ((k1.trans k2).trans k3) fun i hi h => absurd (show i = w0.heap.size from h) (by omega)
  have hlk : (Instr.lookup 122 (.map (some w0.heap.size)) (.int .i64 kind) true).run Tryd.prog w4 = .ok (.tuple #[(lookI countD kind nofn).1, .bool (lookI countD kind nofn).2]) w4 :=
    MapI.look (D := countD) m3 Tryd.underlying122 Tryd.underlying33 zeroFn3 HI.out (by unfold countD; simp) true
  have B0 := Lib.hid (bx0.ext hE4)
  have B1 := Lib.hid (bx1.ext hE4)
  have HE := Lib.hid (ex.ext hE4)
  replace HT := Lib.hid (HT.out.ext HE.out)
  obtain ⟨v, hat⟩ := HT.out
  obtain ⟨s0, s1, s2⟩ := hat.st m HM.out
  have lt := hat.box.lt
  obtain ⟨s, hs⟩ : ∃ s, T.of m = s := ⟨_, rfl⟩
  rw [hs] at s0 s1 s2
  have HS := Lib.hid hs
  clear m1 m2 m3 k1 k2 k3 put hE4 bx0 bx1 ex hat hs
  rcases look_count kind nofn with ⟨h1, h2⟩ | ⟨h1, h2⟩ | ⟨h1, h2⟩ | ⟨h1, h2⟩
  · rw [h2] at hlk
    have H1 := Lib.hid h1
    clear h1 h2
    obtain ⟨cB0, zB0⟩ := B0.out.reads
    have lB0 := B0.out.lt
    obtain ⟨cB1, zB1⟩ := B1.out.reads
    have lB1 := B1.out.lt
    have n0 : ¬ OneB (w.heap.size + 1) w.heap.size := by unfold OneB; omega
    have n1 : ¬ OneB (w.heap.size + 1) b := by have := HLT.out; unfold OneB; omega
    have g1 : (m : Int) < 16 := by have := HM.out; omega
    have g2 : ¬ (m : Int) < 0 := by omega
    go_wp2_with fail
    have hE0 : Keeps (OneB (w.heap.size + 1)) w4 w4.drew := (Keeps.refl _ _).drew
    refine wp_region_plan [(0, 0), (0, 1), (0, 2), (0, 3), (3, 4), (0, 5), (0, 6), (0, 7), (3, 8), (3, 9), (2, 10), (0, 11), (0, 12)] [] [10, 13, 14] [13, 14] (ClsK (OneB (w.heap.size + 1)) w4) (by kernel_rfl) (by kernel_rfl) (by kernel_rfl) rfl rfl (ClsK.of hE0) (fun _ _ _ d _ h => by cases d <;> exact h) ?_; simp only [planL, List.getElem?_toArray, List.getElem?_cons_succ, List.getElem?_cons_zero]
    refine plan_pure rfl (fun K hK => quiet_move' _ rfl (hK _ ?_)); clear hK K; simp only [Act.put, Act.eval, Array.getD_eq_getD_getElem?, List.getElem?_toArray, List.getElem?_cons_zero, List.getElem?_cons_succ, Option.getD_some, List.setIfInBounds_toArray, List.set_cons_zero, List.set_cons_succ]
    refine plan_pure rfl (fun K hK => quiet_move' _ rfl (hK _ ?_)); clear hK K; simp only [Act.put, Act.eval, Array.getD_eq_getD_getElem?, List.getElem?_toArray, List.getElem?_cons_zero, Option.getD_some, List.setIfInBounds_toArray, List.set_cons_zero, List.set_cons_succ]
    refine plan_pure rfl (fun K hK => quiet_move' _ rfl (hK _ ?_)); clear hK K; simp only [Act.put, Act.eval, Array.getD_eq_getD_getElem?, List.getElem?_toArray, List.getElem?_cons_zero, Option.getD_some, List.setIfInBounds_toArray, List.set_cons_zero, List.set_cons_succ]
    refine plan_pure rfl (fun K hK => quiet_run (v := ?_) (fun W _ => ?_) (hK _ ?_)); rotate_left; (go_simp <;> with_reducible rfl); clear hK K; simp only [Act.put, List.setIfInBounds_toArray, List.set_cons_zero, List.set_cons_succ]
    refine plan_exact rfl (fun K hK => quiet_runX (v := ?_) ?_ (hK _ ?_)); rotate_left; (go_simp <;> with_reducible rfl); clear hK K; simp only [Act.put, List.setIfInBounds_toArray, List.set_cons_zero, List.set_cons_succ]
    refine plan_pure rfl (fun K hK => quiet_run (v := ?_) (fun W _ => ?_) (hK _ ?_)); rotate_left; (go_simp <;> with_reducible rfl); clear hK K; simp only [Act.put, List.setIfInBounds_toArray, List.set_cons_zero, List.set_cons_succ]
    refine plan_pure rfl (fun K hK => quiet_run (v := ?_) (fun W _ => ?_) (hK _ ?_)); rotate_left; (go_simp <;> with_reducible rfl); clear hK K; simp only [Act.put, List.setIfInBounds_toArray, List.set_cons_zero, List.set_cons_succ]
    refine plan_pure rfl (fun K hK => quiet_run (v := ?_) (fun W _ => ?_) (hK _ ?_)); rotate_left; (go_simp <;> with_reducible rfl); clear hK K; simp only [Act.put, List.setIfInBounds_toArray, List.set_cons_zero, List.set_cons_succ]
    refine plan_exact rfl (fun K hK => quiet_runX (v := ?_) ?_ (hK _ ?_)); rotate_left; (go_simp <;> with_reducible rfl); clear hK K; simp only [Act.put, List.setIfInBounds_toArray, List.set_cons_zero, List.set_cons_succ]
    refine plan_exact rfl (fun K hK => quiet_runX (v := ?_) ?_ (hK _ ?_)); rotate_left; (go_simp <;> with_reducible rfl); clear hK K; simp only [Act.put, List.setIfInBounds_toArray, List.set_cons_zero, List.set_cons_succ]
    refine plan_does rfl (fun K hK => ?_)
    go_wp2_with fail
    refine (joins_any _ b T s ⟨kind, m, number, text⟩ (HT.out.ext (Ext.drew0 _))).mono ?_
    rintro r w5 ⟨rfl, hE5⟩
    have hX5 : Ext w4 w5 := ((Keeps.refl NoB w4).drew).ext hE5
    have hK5 : Keeps (OneB (w.heap.size + 1)) w4 w5 := Ext.keeps hX5
    have B5 := Lib.hid (B1.out.ext hX5)
    have HX5 := Lib.hid hX5
    clear hE5 hX5
    clear cB0 zB0 lB0 cB1 zB1 lB1
    obtain ⟨cB5, zB5⟩ := B5.out.reads
    have lB5 := B5.out.lt
    unfold St.v
    refine hK _ _ ⟨ClsK.of (by assumption), ?_⟩; clear hK K; try simp only [Act.put, List.setIfInBounds_toArray, List.set_cons_zero, List.set_cons_succ]
    refine plan_pure rfl (fun K hK => quiet_run (v := ?_) (fun W _ => ?_) (hK _ ?_)); rotate_left; (go_simp <;> with_reducible rfl); clear hK K; simp only [Act.put, List.setIfInBounds_toArray, List.set_cons_zero, List.set_cons_succ]
    refine plan_pure rfl (fun K hK => quiet_run (v := ?_) (fun W _ => ?_) (hK _ ?_)); rotate_left; (go_simp <;> with_reducible rfl); clear hK K; simp only [Act.put, List.setIfInBounds_toArray, List.set_cons_zero, List.set_cons_succ]
    refine plan_nil ?_; simp only [tailL, List.filterMap_cons, List.filterMap_nil, List.getElem?_toArray, List.getElem?_cons_succ, List.getElem?_cons_zero]; change wpList _ _ _ (_ :: _ :: []) _ _
    go_wp2_with fail
    clear cB5 zB5 lB5
    have hcr : countsR T ⟨kind, m, number, text⟩ = (⟨true, (T.l.length : Int), s.last⟩, !s.inn) := by
      have h1 := H1.out
      have h2 := HS.out
      unfold countsR
      simp only [Int.toNat_natCast, h2]
      rw [if_pos h1]
    rw [hcr]
    have hs := Sx.out
    have q := ((B5.out.set 0 (.bool (true))).set 1 (.int .i64 ((T.l.length : Int)))).set 2 (.int .i64 (s.last))
    dsimp only [List.set_cons_zero, List.set_cons_succ] at q
    have q1 := q.reads.1
    refine bodyPost_ret (v := .tuple #[(⟨true, (T.l.length : Int), s.last⟩ : St).v, .bool (!s.inn)]) (by simp [results, Tryd.results56, go_sem, q1, St.v]) rfl ⟨rfl, ?_⟩
    exact (HE.out.ext HX5.out).then ((((Keeps.refl (OneB (w.heap.size + 1)) w5).setOne 0 _).setOne 1 _).setOne 2 _) (fun i hi h => by unfold OneB at h; omega)
  · rw [h2] at hlk
    have H1 := Lib.hid h1
    clear h1 h2
    obtain ⟨cB0, zB0⟩ := B0.out.reads
    have lB0 := B0.out.lt
    obtain ⟨cB1, zB1⟩ := B1.out.reads
    have lB1 := B1.out.lt
    have n0 : ¬ OneB (w.heap.size + 1) w.heap.size := by unfold OneB; omega
    have n1 : ¬ OneB (w.heap.size + 1) b := by have := HLT.out; unfold OneB; omega
    have g1 : (m : Int) < 16 := by have := HM.out; omega
    have g2 : ¬ (m : Int) < 0 := by omega
    go_wp2_with fail
    have hE0 : Keeps (OneB (w.heap.size + 1)) w4 w4.drew := (Keeps.refl _ _).drew
    refine wp_region_plan [(0, 0), (0, 1), (0, 2), (0, 3), (3, 4), (0, 5), (0, 6), (0, 7), (3, 8), (3, 9), (2, 10), (0, 11), (0, 12)] [] [10, 13, 14] [13, 14] (ClsK (OneB (w.heap.size + 1)) w4) (by kernel_rfl) (by kernel_rfl) (by kernel_rfl) rfl rfl (ClsK.of hE0) (fun _ _ _ d _ h => by cases d <;> exact h) ?_; simp only [planL, List.getElem?_toArray, List.getElem?_cons_succ, List.getElem?_cons_zero]
    refine plan_pure rfl (fun K hK => quiet_move' _ rfl (hK _ ?_)); clear hK K; simp only [Act.put, Act.eval, Array.getD_eq_getD_getElem?, List.getElem?_toArray, List.getElem?_cons_zero, List.getElem?_cons_succ, Option.getD_some, List.setIfInBounds_toArray, List.set_cons_zero, List.set_cons_succ]
    refine plan_pure rfl (fun K hK => quiet_move' _ rfl (hK _ ?_)); clear hK K; simp only [Act.put, Act.eval, Array.getD_eq_getD_getElem?, List.getElem?_toArray, List.getElem?_cons_zero, Option.getD_some, List.setIfInBounds_toArray, List.set_cons_zero, List.set_cons_succ]
    refine plan_pure rfl (fun K hK => quiet_move' _ rfl (hK _ ?_)); clear hK K; simp only [Act.put, Act.eval, Array.getD_eq_getD_getElem?, List.getElem?_toArray, List.getElem?_cons_zero, Option.getD_some, List.setIfInBounds_toArray, List.set_cons_zero, List.set_cons_succ]
    refine plan_pure rfl (fun K hK => quiet_run (v := ?_) (fun W _ => ?_) (hK _ ?_)); rotate_left; (go_simp <;> with_reducible rfl); clear hK K; simp only [Act.put, List.setIfInBounds_toArray, List.set_cons_zero, List.set_cons_succ]
    refine plan_exact rfl (fun K hK => quiet_runX (v := ?_) ?_ (hK _ ?_)); rotate_left; (go_simp <;> with_reducible rfl); clear hK K; simp only [Act.put, List.setIfInBounds_toArray, List.set_cons_zero, List.set_cons_succ]
    refine plan_pure rfl (fun K hK => quiet_run (v := ?_) (fun W _ => ?_) (hK _ ?_)); rotate_left; (go_simp <;> with_reducible rfl); clear hK K; simp only [Act.put, List.setIfInBounds_toArray, List.set_cons_zero, List.set_cons_succ]
    refine plan_pure rfl (fun K hK => quiet_run (v := ?_) (fun W _ => ?_) (hK _ ?_)); rotate_left; (go_simp <;> with_reducible rfl); clear hK K; simp only [Act.put, List.setIfInBounds_toArray, List.set_cons_zero, List.set_cons_succ]
    refine plan_pure rfl (fun K hK => quiet_run (v := ?_) (fun W _ => ?_) (hK _ ?_)); rotate_left; (go_simp <;> with_reducible rfl); clear hK K; simp only [Act.put, List.setIfInBounds_toArray, List.set_cons_zero, List.set_cons_succ]
    refine plan_exact rfl (fun K hK => quiet_runX (v := ?_) ?_ (hK _ ?_)); rotate_left; (go_simp <;> with_reducible rfl); clear hK K; simp only [Act.put, List.setIfInBounds_toArray, List.set_cons_zero, List.set_cons_succ]
    refine plan_exact rfl (fun K hK => quiet_runX (v := ?_) ?_ (hK _ ?_)); rotate_left; (go_simp <;> with_reducible rfl); clear hK K; simp only [Act.put, List.setIfInBounds_toArray, List.set_cons_zero, List.set_cons_succ]
    refine plan_does rfl (fun K hK => ?_)
    go_wp2_with fail
    refine (leaves_any _ s ⟨kind, m, number, text⟩).mono ?_
    rintro r w5 ⟨rfl, hE5⟩
    have hX5 : Ext w4 w5 := ((Keeps.refl NoB w4).drew).ext hE5
    have hK5 : Keeps (OneB (w.heap.size + 1)) w4 w5 := Ext.keeps hX5
    have B5 := Lib.hid (B1.out.ext hX5)
    have HX5 := Lib.hid hX5
    clear hE5 hX5
    clear cB0 zB0 lB0 cB1 zB1 lB1
    obtain ⟨cB5, zB5⟩ := B5.out.reads
    have lB5 := B5.out.lt
    unfold St.v
    refine hK _ _ ⟨ClsK.of (by assumption), ?_⟩; clear hK K; try simp only [Act.put, List.setIfInBounds_toArray, List.set_cons_zero, List.set_cons_succ]
    refine plan_pure rfl (fun K hK => quiet_run (v := ?_) (fun W _ => ?_) (hK _ ?_)); rotate_left; (go_simp <;> with_reducible rfl); clear hK K; simp only [Act.put, List.setIfInBounds_toArray, List.set_cons_zero, List.set_cons_succ]
    refine plan_pure rfl (fun K hK => quiet_run (v := ?_) (fun W _ => ?_) (hK _ ?_)); rotate_left; (go_simp <;> with_reducible rfl); clear hK K; simp only [Act.put, List.setIfInBounds_toArray, List.set_cons_zero, List.set_cons_succ]
    refine plan_nil ?_; simp only [tailL, List.filterMap_cons, List.filterMap_nil, List.getElem?_toArray, List.getElem?_cons_succ, List.getElem?_cons_zero]; change wpList _ _ _ (_ :: _ :: []) _ _
    go_wp2_with fail
    clear cB5 zB5 lB5
    have hcr : countsR T ⟨kind, m, number, text⟩ = (⟨false, s.joined, s.last⟩, s.inn) := by
      have h1 := H1.out
      have h2 := HS.out
      unfold countsR
      simp only [Int.toNat_natCast, h2]
      rw [if_neg h1.1, if_pos h1.2]
    rw [hcr]
    have hs := Sx.out
    have q := ((B5.out.set 0 (.bool (false))).set 1 (.int .i64 (s.joined))).set 2 (.int .i64 (s.last))
    dsimp only [List.set_cons_zero, List.set_cons_succ] at q
    have q1 := q.reads.1
    refine bodyPost_ret (v := .tuple #[(⟨false, s.joined, s.last⟩ : St).v, .bool (s.inn)]) (by simp [results, Tryd.results56, go_sem, q1, St.v]) rfl ⟨rfl, ?_⟩
    exact (HE.out.ext HX5.out).then ((((Keeps.refl (OneB (w.heap.size + 1)) w5).setOne 0 _).setOne 1 _).setOne 2 _) (fun i hi h => by unfold OneB at h; omega)
  · rw [h2] at hlk
    have H1 := Lib.hid h1
    clear h1 h2
    obtain ⟨cB0, zB0⟩ := B0.out.reads
    have lB0 := B0.out.lt
    obtain ⟨cB1, zB1⟩ := B1.out.reads
    have lB1 := B1.out.lt
    have n0 : ¬ OneB (w.heap.size + 1) w.heap.size := by unfold OneB; omega
    have n1 : ¬ OneB (w.heap.size + 1) b := by have := HLT.out; unfold OneB; omega
    have g1 : (m : Int) < 16 := by have := HM.out; omega
    have g2 : ¬ (m : Int) < 0 := by omega
    go_wp2_with fail
    have hE0 : Keeps (OneB (w.heap.size + 1)) w4 w4.drew := (Keeps.refl _ _).drew
    refine wp_region_plan [(0, 0), (0, 1), (0, 2), (0, 3), (3, 4), (0, 5), (0, 6), (0, 7), (3, 8), (3, 9), (2, 10), (0, 11), (0, 12)] [] [10, 13, 14] [13, 14] (ClsK (OneB (w.heap.size + 1)) w4) (by kernel_rfl) (by kernel_rfl) (by kernel_rfl) rfl rfl (ClsK.of hE0) (fun _ _ _ d _ h => by cases d <;> exact h) ?_; simp only [planL, List.getElem?_toArray, List.getElem?_cons_succ, List.getElem?_cons_zero]
    refine plan_pure rfl (fun K hK => quiet_move' _ rfl (hK _ ?_)); clear hK K; simp only [Act.put, Act.eval, Array.getD_eq_getD_getElem?, List.getElem?_toArray, List.getElem?_cons_zero, List.getElem?_cons_succ, Option.getD_some, List.setIfInBounds_toArray, List.set_cons_zero, List.set_cons_succ]
    refine plan_pure rfl (fun K hK => quiet_move' _ rfl (hK _ ?_)); clear hK K; simp only [Act.put, Act.eval, Array.getD_eq_getD_getElem?, List.getElem?_toArray, List.getElem?_cons_zero, Option.getD_some, List.setIfInBounds_toArray, List.set_cons_zero, List.set_cons_succ]
    refine plan_pure rfl (fun K hK => quiet_move' _ rfl (hK _ ?_)); clear hK K; simp only [Act.put, Act.eval, Array.getD_eq_getD_getElem?, List.getElem?_toArray, List.getElem?_cons_zero, Option.getD_some, List.setIfInBounds_toArray, List.set_cons_zero, List.set_cons_succ]
    refine plan_pure rfl (fun K hK => quiet_run (v := ?_) (fun W _ => ?_) (hK _ ?_)); rotate_left; (go_simp <;> with_reducible rfl); clear hK K; simp only [Act.put, List.setIfInBounds_toArray, List.set_cons_zero, List.set_cons_succ]
    refine plan_exact rfl (fun K hK => quiet_runX (v := ?_) ?_ (hK _ ?_)); rotate_left; (go_simp <;> with_reducible rfl); clear hK K; simp only [Act.put, List.setIfInBounds_toArray, List.set_cons_zero, List.set_cons_succ]
    refine plan_pure rfl (fun K hK => quiet_run (v := ?_) (fun W _ => ?_) (hK _ ?_)); rotate_left; (go_simp <;> with_reducible rfl); clear hK K; simp only [Act.put, List.setIfInBounds_toArray, List.set_cons_zero, List.set_cons_succ]
    refine plan_pure rfl (fun K hK => quiet_run (v := ?_) (fun W _ => ?_) (hK _ ?_)); rotate_left; (go_simp <;> with_reducible rfl); clear hK K; simp only [Act.put, List.setIfInBounds_toArray, List.set_cons_zero, List.set_cons_succ]
    refine plan_pure rfl (fun K hK => quiet_run (v := ?_) (fun W _ => ?_) (hK _ ?_)); rotate_left; (go_simp <;> with_reducible rfl); clear hK K; simp only [Act.put, List.setIfInBounds_toArray, List.set_cons_zero, List.set_cons_succ]
    refine plan_exact rfl (fun K hK => quiet_runX (v := ?_) ?_ (hK _ ?_)); rotate_left; (go_simp <;> with_reducible rfl); clear hK K; simp only [Act.put, List.setIfInBounds_toArray, List.set_cons_zero, List.set_cons_succ]
    refine plan_exact rfl (fun K hK => quiet_runX (v := ?_) ?_ (hK _ ?_)); rotate_left; (go_simp <;> with_reducible rfl); clear hK K; simp only [Act.put, List.setIfInBounds_toArray, List.set_cons_zero, List.set_cons_succ]
    refine plan_does rfl (fun K hK => ?_)
    go_wp2_with fail
    refine (says_any _ s ⟨kind, m, number, text⟩).mono ?_
    rintro r w5 ⟨rfl, hE5⟩
    have hX5 : Ext w4 w5 := ((Keeps.refl NoB w4).drew).ext hE5
    have hK5 : Keeps (OneB (w.heap.size + 1)) w4 w5 := Ext.keeps hX5
    have B5 := Lib.hid (B1.out.ext hX5)
    have HX5 := Lib.hid hX5
    clear hE5 hX5
    clear cB0 zB0 lB0 cB1 zB1 lB1
    obtain ⟨cB5, zB5⟩ := B5.out.reads
    have lB5 := B5.out.lt
    unfold St.v
    refine hK _ _ ⟨ClsK.of (by assumption), ?_⟩; clear hK K; try simp only [Act.put, List.setIfInBounds_toArray, List.set_cons_zero, List.set_cons_succ]
    refine plan_pure rfl (fun K hK => quiet_run (v := ?_) (fun W _ => ?_) (hK _ ?_)); rotate_left; (go_simp <;> with_reducible rfl); clear hK K; simp only [Act.put, List.setIfInBounds_toArray, List.set_cons_zero, List.set_cons_succ]
    refine plan_pure rfl (fun K hK => quiet_run (v := ?_) (fun W _ => ?_) (hK _ ?_)); rotate_left; (go_simp <;> with_reducible rfl); clear hK K; simp only [Act.put, List.setIfInBounds_toArray, List.set_cons_zero, List.set_cons_succ]
    refine plan_nil ?_; simp only [tailL, List.filterMap_cons, List.filterMap_nil, List.getElem?_toArray, List.getElem?_cons_succ, List.getElem?_cons_zero]; change wpList _ _ _ (_ :: _ :: []) _ _
    go_wp2_with fail
    clear cB5 zB5 lB5
    have hcr : countsR T ⟨kind, m, number, text⟩ = (⟨s.inn, s.joined, number⟩, saysB s ⟨kind, m, number, text⟩) := by
      have h1 := H1.out
      have h2 := HS.out
      unfold countsR
      simp only [Int.toNat_natCast, h2]
      rw [if_neg h1.1, if_neg h1.2.1, if_pos h1.2.2]
    rw [hcr]
    have hs := Sx.out
    have q := ((B5.out.set 0 (.bool (s.inn))).set 1 (.int .i64 (s.joined))).set 2 (.int .i64 (number))
    dsimp only [List.set_cons_zero, List.set_cons_succ] at q
    have q1 := q.reads.1
    refine bodyPost_ret (v := .tuple #[(⟨s.inn, s.joined, number⟩ : St).v, .bool (saysB s ⟨kind, m, number, text⟩)]) (by simp [results, Tryd.results56, go_sem, q1, St.v]) rfl ⟨rfl, ?_⟩
    exact (HE.out.ext HX5.out).then ((((Keeps.refl (OneB (w.heap.size + 1)) w5).setOne 0 _).setOne 1 _).setOne 2 _) (fun i hi h => by unfold OneB at h; omega)
  · rw [h2] at hlk
    have H1 := Lib.hid h1
    clear h1 h2
    obtain ⟨cB0, zB0⟩ := B0.out.reads
    have lB0 := B0.out.lt
    obtain ⟨cB1, zB1⟩ := B1.out.reads
    have lB1 := B1.out.lt
    go_wp2_with fail
    clear cB0 zB0 lB0 cB1 zB1 lB1
    have hcr : countsR T ⟨kind, m, number, text⟩ = (⟨false, 0, 0⟩, false) := by
      have h1 := H1.out
      unfold countsR
      rw [if_neg h1.1, if_neg h1.2.1, if_neg h1.2.2]
    rw [hcr]
    have hs := Sx.out
    have q := ((B1.out.set 0 (.bool false)).set 1 (.int .i64 0)).set 2 (.int .i64 0)
    dsimp only [List.set_cons_zero, List.set_cons_succ] at q
    have q1 := q.reads.1
    refine bodyPost_ret (v := .tuple #[(⟨false, 0, 0⟩ : St).v, .bool false]) (by simp [results, Tryd.results56, go_sem, q1, St.v]) rfl ⟨rfl, ?_⟩
    exact HE.out.then ((((Keeps.refl (OneB (w.heap.size + 1)) w4).setOne 0 _).setOne 1 _).setOne 2 _) (fun i hi h => by unfold OneB at h; omega)
end Go.Proofs.YthhdgjofagdjeaaDoor
