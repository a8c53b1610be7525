/- The net's own functions, each by its contract: what Put refuses. Conditions: the net lies as 'NetX' says. -/
import Derived.Test.YtdiogipdcpiffaaNetF
set_option linter.unusedVariables false
set_option maxHeartbeats 400000
set_option maxRecDepth 10000
namespace Go.Proofs.Ytdiogipdcpiffaa
open Go.RowKit

def NA.putErr (N : NA) (f t : Int) (n : Nat) : Nat := if (N.endB f && N.endB t) = false then 2 else if 8192 < n then 3 else if (f, t) ∈ N.downs then 210 else if N.most ≤ N.l.length then 211 else 0
structure PutIn (w : World) (F M : Nat → Prop) (b q r s u : Nat) (f t : Int) (a : Option Addr) (n c : Nat) (N : NA) : Prop where
  net : NetX w F M b N
  q : Box w q 23 [.pointer (some ⟨b, 0, none⟩)]
  r : Box w r 3 [.int .i64 f]
  s : Box w s 3 [.int .i64 t]
  u : Box w u 30 [.slice a n c]
theorem PutIn.ext {w w' : World} {F M : Nat → Prop} {b q r s u : Nat} {f t : Int} {a : Option Addr} {n c : Nat} {N : NA} (h : PutIn w F M b q r s u f t a n c N) (hk : Ext w w') : PutIn w' F M b q r s u f t a n c N :=
  ⟨h.net.ext hk, h.q.ext hk, h.r.ext hk, h.s.ext hk, h.u.ext hk⟩
section
variable {F M : Nat → Prop} {w : World} {b q r s u : Nat} {f t : Int} {a : Option Addr} {n c : Nat} {N : NA}
theorem put1_any (h : PutIn w F M b q r s u f t a n c N) :
    Calls Try.prog 33 #[.pointer (some ⟨q, 0, none⟩), .pointer (some ⟨r, 0, none⟩), .pointer (some ⟨s, 0, none⟩)] w fun e w' => e = .returned (.bool (!(N.endB f && N.endB t))) ∧ Ext w w' := by
  have HQ := Lib.hid h.q
  have HR := Lib.hid h.r
  have HS := Lib.hid h.s
  have HN := Lib.hid h.net
  clear h
  obtain ⟨cHQ, zHQ⟩ := HQ.out.reads
  have lHQ := HQ.out.lt
  obtain ⟨cHR, zHR⟩ := HR.out.reads
  have lHR := HR.out.lt
  obtain ⟨cHS, zHS⟩ := HS.out.reads
  have lHS := HS.out.lt
  go_enter Try.func33, Try.ntmps33
  go_wp2_with fail
  have bx0 := (Box.new w 3 [.int .i64 f, .int .i64 t])
  have ex : Ext w (w.alloc (Obj.cells #[.int .i64 f, .int .i64 t] 3)) := ((Keeps.refl NoB w).alloc _)
  have sx : (w.alloc (Obj.cells #[.int .i64 f, .int .i64 t] 3)).heap.size = w.heap.size + 1 := by simp
  generalize (w.alloc (Obj.cells #[.int .i64 f, .int .i64 t] 3)) = w0 at bx0 ex sx ⊢
  have Sx := Lib.hid sx
  clear sx
  have HE := Lib.hid ex
  refine (end_any w0 w.heap.size b N f t bx0 (HN.out.ext ex)).mono ?_
  rintro e w1 ⟨rfl, hE⟩
  have HE1 := Lib.hid (ex.ext hE)
  clear ex bx0 hE HE
  cases hb : (N.endB f && N.endB t)
  all_goals
    go_wp2_with fail
    go_ret
    exact ⟨by simp [hb], HE1.out⟩
theorem put2_any (h : PutIn w F M b q r s u f t a n c N) (hn : n ≤ 9223372036854775807) :
    Calls Try.prog 35 #[.pointer (some ⟨u, 0, none⟩)] w fun e w' => e = .returned (.bool (decide (8192 < n))) ∧ w = w' := by
  have HU := Lib.hid h.u
  clear h
  obtain ⟨cHU, zHU⟩ := HU.out.reads
  have lHU := HU.out.lt
  by_cases hh : 8192 < n
  · have h2 : (8192 : Int) < (n : Int) := by omega
    go_enter Try.func35, Try.ntmps35
    go_wp2_with fail
    go_ret
    exact ⟨by simp [hh], rfl⟩
  · have h2 : ¬ (8192 : Int) < (n : Int) := by omega
    go_enter Try.func35, Try.ntmps35
    go_wp2_with fail
    go_ret
    exact ⟨by simp, rfl⟩
theorem put3_any (h : PutIn w F M b q r s u f t a n c N) (hf : I64 f) (ht : I64 t) :
    Calls Try.prog 36 #[.pointer (some ⟨q, 0, none⟩), .pointer (some ⟨r, 0, none⟩), .pointer (some ⟨s, 0, none⟩)] w fun e w' => e = .returned (.bool (decide ((f, t) ∈ N.downs))) ∧ Ext w w' := by
  have HQ := Lib.hid h.q
  have HR := Lib.hid h.r
  have HS := Lib.hid h.s
  have HN := Lib.hid h.net
  obtain ⟨A, m, a', c', hb, -, hs, -⟩ := h.net.see
  have HB := Lib.hid hb
  have HD := Lib.hid hs
  clear h hb hs
  obtain ⟨cHQ, zHQ⟩ := HQ.out.reads
  have lHQ := HQ.out.lt
  obtain ⟨cHR, zHR⟩ := HR.out.reads
  have lHR := HR.out.lt
  obtain ⟨cHS, zHS⟩ := HS.out.reads
  have lHS := HS.out.lt
  obtain ⟨cHB, zHB⟩ := HB.out.reads
  have lHB := HB.out.lt
  go_enter Try.func36, Try.ntmps36
  go_wp2_with fail
  have hd := fun (W : World) (hW : Ext w W) => run_isdown (HD.out.ext hW) hf ht _ rfl
  have hE0 : Keeps NoB w w.drew := (Keeps.refl _ _).drew
  refine wp_region_plan [(3, 0), (0, 1), (0, 2), (3, 3), (3, 4), (3, 5), (0, 6), (3, 7), (0, 8)] [] [] [] (ClsE w) (by kernel_rfl) (by kernel_rfl) (by kernel_rfl) rfl rfl (ClsE.of hE0) (fun _ _ _ d _ h => by cases d <;> exact h) ?_; simp only [planL, List.getElem?_toArray, List.getElem?_cons_succ, List.getElem?_cons_zero]
  refine plan_exact rfl (fun K hK => quiet_runX (v := ?_) ?_ (hK _ ?_)); rotate_left; (go_simp <;> with_reducible rfl); clear hK K; simp only [Act.put, List.setIfInBounds_toArray, List.set_cons_zero, List.set_cons_succ]
  refine plan_pure rfl (fun K hK => quiet_run (v := ?_) (fun W _ => ?_) (hK _ ?_)); rotate_left; (go_simp <;> with_reducible rfl); clear hK K; simp only [Act.put, List.setIfInBounds_toArray, List.set_cons_zero, List.set_cons_succ]
  refine plan_pure rfl (fun K hK => quiet_run (v := ?_) (fun W _ => ?_) (hK _ ?_)); rotate_left; (go_simp <;> with_reducible rfl); clear hK K; simp only [Act.put, List.setIfInBounds_toArray, List.set_cons_zero, List.set_cons_succ]
  refine plan_exact rfl (fun K hK => quiet_runX (v := ?_) ?_ (hK _ ?_)); rotate_left; (go_simp <;> with_reducible rfl); clear hK K; simp only [Act.put, List.setIfInBounds_toArray, List.set_cons_zero, List.set_cons_succ]
  refine plan_exact rfl (fun K hK => quiet_runX (v := ?_) ?_ (hK _ ?_)); rotate_left; (go_simp <;> with_reducible rfl); clear hK K; simp only [Act.put, List.setIfInBounds_toArray, List.set_cons_zero, List.set_cons_succ]
  refine plan_exact rfl (fun K hK => quiet_runX (v := ?_) ?_ (hK _ ?_)); rotate_left; (go_simp <;> with_reducible rfl); clear hK K; simp only [Act.put, List.setIfInBounds_toArray, List.set_cons_zero, List.set_cons_succ]
  refine plan_pure rfl (fun K hK => quiet_run (v := ?_) (fun W _ => ?_) (hK _ ?_)); rotate_left; (go_simp <;> with_reducible rfl); clear hK K; simp only [Act.put, List.setIfInBounds_toArray, List.set_cons_zero, List.set_cons_succ]
  refine plan_exact rfl (fun K hK => quiet_runX (v := ?_) ?_ (hK _ ?_)); rotate_left; (go_simp <;> with_reducible rfl); clear hK K; simp only [Act.put, List.setIfInBounds_toArray, List.set_cons_zero, List.set_cons_succ]
  refine plan_pure rfl (fun K hK => quiet_assign' _ rfl (hK _ ?_)); clear hK K; simp only [Act.put, Act.eval, Array.getD_eq_getD_getElem?, List.getElem?_toArray, List.getElem?_cons_zero, List.getElem?_cons_succ, Option.getD_some, List.setIfInBounds_toArray, List.set_cons_zero, List.set_cons_succ]
  refine plan_nil ?_; simp only [tailL, List.filterMap_nil]
  go_wp2_with fail
  go_ret
  exact ⟨rfl, hE0⟩
theorem put4_any (h : PutIn w F M b q r s u f t a n c N) :
    Calls Try.prog 37 #[.pointer (some ⟨q, 0, none⟩)] w fun e w' => e = .returned (.bool (decide (N.most ≤ N.l.length))) ∧ Ext w w' := by
  have HQ := Lib.hid h.q
  have hm := h.net.m1
  obtain ⟨A, m, a', c', hb, -, hs, -⟩ := h.net.see
  have HB := Lib.hid hb
  clear h hb hs
  obtain ⟨cHQ, zHQ⟩ := HQ.out.reads
  have lHQ := HQ.out.lt
  obtain ⟨cHB, zHB⟩ := HB.out.reads
  have lHB := HB.out.lt
  by_cases hh : N.most ≤ N.l.length
  · have h2 : (N.most : Int) ≤ (N.l.length : Int) := by omega
    go_enter Try.func37, Try.ntmps37
    go_wp2_with fail
    have hE0 : Keeps NoB w w.drew := (Keeps.refl _ _).drew
    refine wp_region_plan [(3, 0), (0, 1), (0, 2), (3, 3), (0, 4), (3, 5), (0, 6), (0, 7), (3, 8), (0, 9), (0, 10)] [] [] [] (ClsE w) (by kernel_rfl) (by kernel_rfl) (by kernel_rfl) rfl rfl (ClsE.of hE0) (fun _ _ _ d _ h => by cases d <;> exact h) ?_; simp only [planL, List.getElem?_toArray, List.getElem?_cons_succ, List.getElem?_cons_zero]
    refine plan_exact rfl (fun K hK => quiet_runX (v := ?_) ?_ (hK _ ?_)); rotate_left; (go_simp <;> with_reducible rfl); clear hK K; simp only [Act.put, List.setIfInBounds_toArray, List.set_cons_zero, List.set_cons_succ]
    refine plan_pure rfl (fun K hK => quiet_run (v := ?_) (fun W _ => ?_) (hK _ ?_)); rotate_left; (go_simp <;> with_reducible rfl); clear hK K; simp only [Act.put, List.setIfInBounds_toArray, List.set_cons_zero, List.set_cons_succ]
    refine plan_pure rfl (fun K hK => quiet_run (v := ?_) (fun W _ => ?_) (hK _ ?_)); rotate_left; (go_simp <;> with_reducible rfl); clear hK K; simp only [Act.put, List.setIfInBounds_toArray, List.set_cons_zero, List.set_cons_succ]
    refine plan_exact rfl (fun K hK => quiet_runX (v := ?_) ?_ (hK _ ?_)); rotate_left; (go_simp <;> with_reducible rfl); clear hK K; simp only [Act.put, List.setIfInBounds_toArray, List.set_cons_zero, List.set_cons_succ]
    refine plan_pure rfl (fun K hK => quiet_run (v := ?_) (fun W _ => ?_) (hK _ ?_)); rotate_left; (go_simp <;> with_reducible rfl); clear hK K; simp only [Act.put, List.setIfInBounds_toArray, List.set_cons_zero, List.set_cons_succ]
    refine plan_exact rfl (fun K hK => quiet_runX (v := ?_) ?_ (hK _ ?_)); rotate_left; (go_simp <;> with_reducible rfl); clear hK K; simp only [Act.put, List.setIfInBounds_toArray, List.set_cons_zero, List.set_cons_succ]
    refine plan_pure rfl (fun K hK => quiet_run (v := ?_) (fun W _ => ?_) (hK _ ?_)); rotate_left; (go_simp <;> with_reducible rfl); clear hK K; simp only [Act.put, List.setIfInBounds_toArray, List.set_cons_zero, List.set_cons_succ]
    refine plan_pure rfl (fun K hK => quiet_run (v := ?_) (fun W _ => ?_) (hK _ ?_)); rotate_left; (go_simp <;> with_reducible rfl); clear hK K; simp only [Act.put, List.setIfInBounds_toArray, List.set_cons_zero, List.set_cons_succ]
    refine plan_exact rfl (fun K hK => quiet_runX (v := ?_) ?_ (hK _ ?_)); rotate_left; (go_simp <;> with_reducible rfl); clear hK K; simp only [Act.put, List.setIfInBounds_toArray, List.set_cons_zero, List.set_cons_succ]
    refine plan_pure rfl (fun K hK => quiet_run (v := ?_) (fun W _ => ?_) (hK _ ?_)); rotate_left; (go_simp <;> with_reducible rfl); clear hK K; simp only [Act.put, List.setIfInBounds_toArray, List.set_cons_zero, List.set_cons_succ]
    refine plan_pure rfl (fun K hK => quiet_assign' _ rfl (hK _ ?_)); clear hK K; simp only [Act.put, Act.eval, Array.getD_eq_getD_getElem?, List.getElem?_toArray, List.getElem?_cons_zero, List.getElem?_cons_succ, Option.getD_some, List.setIfInBounds_toArray, List.set_cons_zero, List.set_cons_succ]
    refine plan_nil ?_; simp only [tailL, List.filterMap_nil]
    go_wp2_with fail
    go_ret
    exact ⟨by simp [hh], hE0⟩
  · have h2 : ¬ (N.most : Int) ≤ (N.l.length : Int) := by omega
    go_enter Try.func37, Try.ntmps37
    go_wp2_with fail
    have hE0 : Keeps NoB w w.drew := (Keeps.refl _ _).drew
    refine wp_region_plan [(3, 0), (0, 1), (0, 2), (3, 3), (0, 4), (3, 5), (0, 6), (0, 7), (3, 8), (0, 9), (0, 10)] [] [] [] (ClsE w) (by kernel_rfl) (by kernel_rfl) (by kernel_rfl) rfl rfl (ClsE.of hE0) (fun _ _ _ d _ h => by cases d <;> exact h) ?_; simp only [planL, List.getElem?_toArray, List.getElem?_cons_succ, List.getElem?_cons_zero]
    refine plan_exact rfl (fun K hK => quiet_runX (v := ?_) ?_ (hK _ ?_)); rotate_left; (go_simp <;> with_reducible rfl); clear hK K; simp only [Act.put, List.setIfInBounds_toArray, List.set_cons_zero, List.set_cons_succ]
    refine plan_pure rfl (fun K hK => quiet_run (v := ?_) (fun W _ => ?_) (hK _ ?_)); rotate_left; (go_simp <;> with_reducible rfl); clear hK K; simp only [Act.put, List.setIfInBounds_toArray, List.set_cons_zero, List.set_cons_succ]
    refine plan_pure rfl (fun K hK => quiet_run (v := ?_) (fun W _ => ?_) (hK _ ?_)); rotate_left; (go_simp <;> with_reducible rfl); clear hK K; simp only [Act.put, List.setIfInBounds_toArray, List.set_cons_zero, List.set_cons_succ]
    refine plan_exact rfl (fun K hK => quiet_runX (v := ?_) ?_ (hK _ ?_)); rotate_left; (go_simp <;> with_reducible rfl); clear hK K; simp only [Act.put, List.setIfInBounds_toArray, List.set_cons_zero, List.set_cons_succ]
    refine plan_pure rfl (fun K hK => quiet_run (v := ?_) (fun W _ => ?_) (hK _ ?_)); rotate_left; (go_simp <;> with_reducible rfl); clear hK K; simp only [Act.put, List.setIfInBounds_toArray, List.set_cons_zero, List.set_cons_succ]
    refine plan_exact rfl (fun K hK => quiet_runX (v := ?_) ?_ (hK _ ?_)); rotate_left; (go_simp <;> with_reducible rfl); clear hK K; simp only [Act.put, List.setIfInBounds_toArray, List.set_cons_zero, List.set_cons_succ]
    refine plan_pure rfl (fun K hK => quiet_run (v := ?_) (fun W _ => ?_) (hK _ ?_)); rotate_left; (go_simp <;> with_reducible rfl); clear hK K; simp only [Act.put, List.setIfInBounds_toArray, List.set_cons_zero, List.set_cons_succ]
    refine plan_pure rfl (fun K hK => quiet_run (v := ?_) (fun W _ => ?_) (hK _ ?_)); rotate_left; (go_simp <;> with_reducible rfl); clear hK K; simp only [Act.put, List.setIfInBounds_toArray, List.set_cons_zero, List.set_cons_succ]
    refine plan_exact rfl (fun K hK => quiet_runX (v := ?_) ?_ (hK _ ?_)); rotate_left; (go_simp <;> with_reducible rfl); clear hK K; simp only [Act.put, List.setIfInBounds_toArray, List.set_cons_zero, List.set_cons_succ]
    refine plan_pure rfl (fun K hK => quiet_run (v := ?_) (fun W _ => ?_) (hK _ ?_)); rotate_left; (go_simp <;> with_reducible rfl); clear hK K; simp only [Act.put, List.setIfInBounds_toArray, List.set_cons_zero, List.set_cons_succ]
    refine plan_pure rfl (fun K hK => quiet_assign' _ rfl (hK _ ?_)); clear hK K; simp only [Act.put, Act.eval, Array.getD_eq_getD_getElem?, List.getElem?_toArray, List.getElem?_cons_zero, List.getElem?_cons_succ, Option.getD_some, List.setIfInBounds_toArray, List.set_cons_zero, List.set_cons_succ]
    refine plan_nil ?_; simp only [tailL, List.filterMap_nil]
    go_wp2_with fail
    go_ret
    exact ⟨by simp [hh], hE0⟩
set_option maxHeartbeats 1000000 in
theorem first_put (fb : Nat) (h : PutIn w F M b q r s u f t a n c N) (hf : I64 f) (ht : I64 t) (hn : n ≤ 9223372036854775807)
    (hb : Box w fb 76 [.func (.func 32) #[.pointer (some ⟨b, 0, none⟩)] #[], .int .i64 1,
      .func (.func 33) #[] #[.pointer (some ⟨q, 0, none⟩), .pointer (some ⟨r, 0, none⟩), .pointer (some ⟨s, 0, none⟩)], .int .i64 2,
      .func (.func 35) #[] #[.pointer (some ⟨u, 0, none⟩)], .int .i64 3,
      .func (.func 36) #[] #[.pointer (some ⟨q, 0, none⟩), .pointer (some ⟨r, 0, none⟩), .pointer (some ⟨s, 0, none⟩)], .int .i64 210,
      .func (.func 37) #[] #[.pointer (some ⟨q, 0, none⟩)], .int .i64 211]) :
    Calls Try.prog 31 #[.slice (some ⟨fb, 0, none⟩) 5 5] w fun e w' => e = .returned (.int .i64 (N.putErr f t n : Nat)) ∧ Ext w w' := by
  have HP := Lib.hid h
  have HF := Lib.hid hb
  clear h hb
  have HD : Hid (N.putErr f t n = if (N.endB f && N.endB t) = false then 2 else if 8192 < n then 3 else if (f, t) ∈ N.downs then 210 else if N.most ≤ N.l.length then 211 else 0) := Lib.hid rfl
  have HE : Hid (Ext w w) := Lib.hid (Keeps.refl _ _)
  go_enter Try.func31, Try.ntmps31
  obtain ⟨cHF, zHF⟩ := HF.out.reads
  have lHF := HF.out.lt
  go_wp2_with fail
  refine wp_loop_rounds 6 ?_
  rw [rounds_succ]
  go_wp2_with fail
  have bx0 := (Box.new w 76 [.func (.func 32) #[.pointer (some ⟨b, 0, none⟩)] #[], .int .i64 1])
  have ex : Ext w (w.alloc (Obj.cells #[.func (.func 32) #[.pointer (some ⟨b, 0, none⟩)] #[], .int .i64 1] 76)) := ((Keeps.refl NoB w).alloc _)
  have sx : (w.alloc (Obj.cells #[.func (.func 32) #[.pointer (some ⟨b, 0, none⟩)] #[], .int .i64 1] 76)).heap.size = w.heap.size + 1 := by simp
  generalize (w.alloc (Obj.cells #[.func (.func 32) #[.pointer (some ⟨b, 0, none⟩)] #[], .int .i64 1] 76)) = w1 at bx0 ex sx ⊢
  have Sx := Lib.hid sx
  clear sx
  clear cHF zHF lHF
  replace HP := Lib.hid (HP.out.ext ex)
  replace HF := Lib.hid (HF.out.ext ex)
  replace HE := Lib.hid (HE.out.ext ex)
  clear ex bx0
  refine (none_net w1 b N HP.out.net).mono ?_
  rintro e w' ⟨rfl, rfl⟩
  obtain ⟨cHF, zHF⟩ := HF.out.reads
  have lHF := HF.out.lt
  go_wp2_with fail
  rw [rounds_succ]
  go_wp2_with fail
  have bx0 := (Box.new w1 76 [.func (.func 33) #[] #[.pointer (some ⟨q, 0, none⟩), .pointer (some ⟨r, 0, none⟩), .pointer (some ⟨s, 0, none⟩)], .int .i64 2])
  have ex : Ext w1 (w1.alloc (Obj.cells #[.func (.func 33) #[] #[.pointer (some ⟨q, 0, none⟩), .pointer (some ⟨r, 0, none⟩), .pointer (some ⟨s, 0, none⟩)], .int .i64 2] 76)) := ((Keeps.refl NoB w1).alloc _)
  have sx : (w1.alloc (Obj.cells #[.func (.func 33) #[] #[.pointer (some ⟨q, 0, none⟩), .pointer (some ⟨r, 0, none⟩), .pointer (some ⟨s, 0, none⟩)], .int .i64 2] 76)).heap.size = w1.heap.size + 1 := by simp
  generalize (w1.alloc (Obj.cells #[.func (.func 33) #[] #[.pointer (some ⟨q, 0, none⟩), .pointer (some ⟨r, 0, none⟩), .pointer (some ⟨s, 0, none⟩)], .int .i64 2] 76)) = w2 at bx0 ex sx ⊢
  have Sx := Lib.hid sx
  clear sx
  have BX := Lib.hid bx0
  clear cHF zHF lHF
  replace HP := Lib.hid (HP.out.ext ex)
  replace HF := Lib.hid (HF.out.ext ex)
  replace HE := Lib.hid (HE.out.ext ex)
  clear ex bx0
  refine (put1_any HP.out).mono ?_
  rintro e w3 ⟨rfl, hE⟩
  replace HP := Lib.hid (HP.out.ext hE)
  replace HF := Lib.hid (HF.out.ext hE)
  replace HE := Lib.hid (HE.out.ext hE)
  replace BX := Lib.hid (BX.out.ext hE)
  clear hE
  obtain ⟨cHF, zHF⟩ := HF.out.reads
  have lHF := HF.out.lt
  obtain ⟨cBX, zBX⟩ := BX.out.reads
  have lBX := BX.out.lt
  rcases Bool.eq_false_or_eq_true (!(N.endB f && N.endB t)) with h1 | h1
  · rw [h1]
    have HH := Lib.hid h1
    clear h1
    go_wp2_with fail
    go_ret
    have h1 := HH.out
    exact ⟨by rw [HD.out, if_pos (by simpa only [Bool.not_eq_true'] using h1)]; rfl, HE.out⟩
  rw [h1]
  have HH := Lib.hid h1
  clear h1
  go_wp2_with fail
  have h1 := HH.out
  clear HH
  clear cBX zBX lBX
  clear BX
  have H1 : Hid ((N.endB f && N.endB t) = true) := Lib.hid (by simpa only [Bool.not_eq_false'] using h1)
  clear h1
  rw [rounds_succ]
  go_wp2_with fail
  have bx0 := (Box.new w3 76 [.func (.func 35) #[] #[.pointer (some ⟨u, 0, none⟩)], .int .i64 3])
  have ex : Ext w3 (w3.alloc (Obj.cells #[.func (.func 35) #[] #[.pointer (some ⟨u, 0, none⟩)], .int .i64 3] 76)) := ((Keeps.refl NoB w3).alloc _)
  have sx : (w3.alloc (Obj.cells #[.func (.func 35) #[] #[.pointer (some ⟨u, 0, none⟩)], .int .i64 3] 76)).heap.size = w3.heap.size + 1 := by simp
  generalize (w3.alloc (Obj.cells #[.func (.func 35) #[] #[.pointer (some ⟨u, 0, none⟩)], .int .i64 3] 76)) = w4 at bx0 ex sx ⊢
  have Sx := Lib.hid sx
  clear sx
  have BX := Lib.hid bx0
  clear cHF zHF lHF
  replace HP := Lib.hid (HP.out.ext ex)
  replace HF := Lib.hid (HF.out.ext ex)
  replace HE := Lib.hid (HE.out.ext ex)
  clear ex bx0
  refine (put2_any HP.out hn).mono ?_
  (rintro e w5 ⟨rfl, rfl⟩; have hE : Ext w4 w4 := Keeps.refl _ _)
  replace HP := Lib.hid (HP.out.ext hE)
  replace HF := Lib.hid (HF.out.ext hE)
  replace HE := Lib.hid (HE.out.ext hE)
  replace BX := Lib.hid (BX.out.ext hE)
  clear hE
  obtain ⟨cHF, zHF⟩ := HF.out.reads
  have lHF := HF.out.lt
  obtain ⟨cBX, zBX⟩ := BX.out.reads
  have lBX := BX.out.lt
  rcases Bool.eq_false_or_eq_true (decide (8192 < n)) with h2 | h2
  · rw [h2]
    have HH := Lib.hid h2
    clear h2
    go_wp2_with fail
    go_ret
    have h2 := HH.out
    exact ⟨by rw [HD.out, if_neg (by rw [H1.out]; simp), if_pos (of_decide_eq_true h2)]; rfl, HE.out⟩
  rw [h2]
  have HH := Lib.hid h2
  clear h2
  go_wp2_with fail
  have h2 := HH.out
  clear HH
  clear cBX zBX lBX
  clear BX
  have H2 : Hid (¬ 8192 < n) := Lib.hid (of_decide_eq_false h2)
  clear h2
  rw [rounds_succ]
  go_wp2_with fail
  have bx0 := (Box.new w4 76 [.func (.func 36) #[] #[.pointer (some ⟨q, 0, none⟩), .pointer (some ⟨r, 0, none⟩), .pointer (some ⟨s, 0, none⟩)], .int .i64 210])
  have ex : Ext w4 (w4.alloc (Obj.cells #[.func (.func 36) #[] #[.pointer (some ⟨q, 0, none⟩), .pointer (some ⟨r, 0, none⟩), .pointer (some ⟨s, 0, none⟩)], .int .i64 210] 76)) := ((Keeps.refl NoB w4).alloc _)
  have sx : (w4.alloc (Obj.cells #[.func (.func 36) #[] #[.pointer (some ⟨q, 0, none⟩), .pointer (some ⟨r, 0, none⟩), .pointer (some ⟨s, 0, none⟩)], .int .i64 210] 76)).heap.size = w4.heap.size + 1 := by simp
  generalize (w4.alloc (Obj.cells #[.func (.func 36) #[] #[.pointer (some ⟨q, 0, none⟩), .pointer (some ⟨r, 0, none⟩), .pointer (some ⟨s, 0, none⟩)], .int .i64 210] 76)) = w6 at bx0 ex sx ⊢
  have Sx := Lib.hid sx
  clear sx
  have BX := Lib.hid bx0
  clear cHF zHF lHF
  replace HP := Lib.hid (HP.out.ext ex)
  replace HF := Lib.hid (HF.out.ext ex)
  replace HE := Lib.hid (HE.out.ext ex)
  clear ex bx0
  refine (put3_any HP.out hf ht).mono ?_
  rintro e w7 ⟨rfl, hE⟩
  replace HP := Lib.hid (HP.out.ext hE)
  replace HF := Lib.hid (HF.out.ext hE)
  replace HE := Lib.hid (HE.out.ext hE)
  replace BX := Lib.hid (BX.out.ext hE)
  clear hE
  obtain ⟨cHF, zHF⟩ := HF.out.reads
  have lHF := HF.out.lt
  obtain ⟨cBX, zBX⟩ := BX.out.reads
  have lBX := BX.out.lt
  rcases Bool.eq_false_or_eq_true (decide ((f, t) ∈ N.downs)) with h3 | h3
  · rw [h3]
    have HH := Lib.hid h3
    clear h3
    go_wp2_with fail
    go_ret
    have h3 := HH.out
    exact ⟨by rw [HD.out, if_neg (by rw [H1.out]; simp), if_neg H2.out, if_pos (of_decide_eq_true h3)]; rfl, HE.out⟩
  rw [h3]
  have HH := Lib.hid h3
  clear h3
  go_wp2_with fail
  have h3 := HH.out
  clear HH
  clear cBX zBX lBX
  clear BX
  have H3 : Hid (¬ (f, t) ∈ N.downs) := Lib.hid (of_decide_eq_false h3)
  clear h3
  rw [rounds_succ]
  go_wp2_with fail
  have bx0 := (Box.new w7 76 [.func (.func 37) #[] #[.pointer (some ⟨q, 0, none⟩)], .int .i64 211])
  have ex : Ext w7 (w7.alloc (Obj.cells #[.func (.func 37) #[] #[.pointer (some ⟨q, 0, none⟩)], .int .i64 211] 76)) := ((Keeps.refl NoB w7).alloc _)
  have sx : (w7.alloc (Obj.cells #[.func (.func 37) #[] #[.pointer (some ⟨q, 0, none⟩)], .int .i64 211] 76)).heap.size = w7.heap.size + 1 := by simp
  generalize (w7.alloc (Obj.cells #[.func (.func 37) #[] #[.pointer (some ⟨q, 0, none⟩)], .int .i64 211] 76)) = w8 at bx0 ex sx ⊢
  have Sx := Lib.hid sx
  clear sx
  have BX := Lib.hid bx0
  clear cHF zHF lHF
  replace HP := Lib.hid (HP.out.ext ex)
  replace HF := Lib.hid (HF.out.ext ex)
  replace HE := Lib.hid (HE.out.ext ex)
  clear ex bx0
  refine (put4_any HP.out).mono ?_
  rintro e w9 ⟨rfl, hE⟩
  replace HP := Lib.hid (HP.out.ext hE)
  replace HF := Lib.hid (HF.out.ext hE)
  replace HE := Lib.hid (HE.out.ext hE)
  replace BX := Lib.hid (BX.out.ext hE)
  clear hE
  obtain ⟨cHF, zHF⟩ := HF.out.reads
  have lHF := HF.out.lt
  obtain ⟨cBX, zBX⟩ := BX.out.reads
  have lBX := BX.out.lt
  rcases Bool.eq_false_or_eq_true (decide (N.most ≤ N.l.length)) with h4 | h4
  · rw [h4]
    have HH := Lib.hid h4
    clear h4
    go_wp2_with fail
    go_ret
    have h4 := HH.out
    exact ⟨by rw [HD.out, if_neg (by rw [H1.out]; simp), if_neg H2.out, if_neg H3.out, if_pos (of_decide_eq_true h4)]; rfl, HE.out⟩
  rw [h4]
  have HH := Lib.hid h4
  clear h4
  go_wp2_with fail
  have h4 := HH.out
  clear HH
  clear cBX zBX lBX
  clear BX
  have H4 : Hid (¬ N.most ≤ N.l.length) := Lib.hid (of_decide_eq_false h4)
  clear h4
  rw [rounds_succ]
  go_wp2_with fail
  go_ret
  exact ⟨by rw [HD.out, if_neg (by rw [H1.out]; simp), if_neg H2.out, if_neg H3.out, if_neg H4.out]; rfl, HE.out⟩
end
end Go.Proofs.Ytdiogipdcpiffaa
