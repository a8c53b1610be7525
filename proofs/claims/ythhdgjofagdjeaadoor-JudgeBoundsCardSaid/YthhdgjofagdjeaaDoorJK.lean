/- A talk takes an entry that counts. Condition: the talk lies as 'TalkAt' says; of an entry that says something, that text.Check answers as the document's. -/
import Derived.Test.YthhdgjofagdjeaaDoorJI
set_option linter.unusedVariables false
set_option linter.unusedSimpArgs false
set_option maxHeartbeats 6000000
set_option maxRecDepth 10000
namespace Go.Proofs.YthhdgjofagdjeaaDoor
open Go.RowKit

theorem stsC_set : ∀ (l : List St) (m : Nat) (s : St), m < l.length → (((stsC l).set (m * 3) (.bool s.inn)).set (m * 3 + 1) (.int .i64 s.joined)).set (m * 3 + 2) (.int .i64 s.last) = stsC (l.set m s)
  | [], m, s, h => by simp at h
  | x :: l, 0, s, h => by simp [stsC, St.cells]
  | x :: l, m + 1, s, h => by
    have ih := stsC_set l m s (by simpa using h)
    have e : ∀ j, (m + 1) * 3 + j = (m * 3 + j) + 1 + 1 + 1 := fun j => by omega
    have e0 : (m + 1) * 3 = (m * 3) + 1 + 1 + 1 := by omega
    have hc : stsC (x :: l) = .bool x.inn :: .int .i64 x.joined :: .int .i64 x.last :: stsC l := by simp [stsC, St.cells]
    have hc2 : stsC ((x :: l).set (m + 1) s) = .bool x.inn :: .int .i64 x.joined :: .int .i64 x.last :: stsC (l.set m s) := by simp [stsC, St.cells]
    rw [hc, hc2, e0]
    rw [show (m * 3 + 1 + 1 + 1 + 1) = (m * 3 + 1) + 1 + 1 + 1 by omega, show (m * 3 + 1 + 1 + 1 + 2) = (m * 3 + 2) + 1 + 1 + 1 by omega]
    simp only [List.set_cons_succ]
    rw [ih]
section
variable {w w' : World} {F F' S : Nat → Prop} {b : Nat} {v : Value} {T : TA}
theorem TalkAt.putSlot (h : TalkAt w F b v T) (n : Int) : TalkAt (w.setCell ⟨b, 1, none⟩ (.int .i64 n)) F b v { T with slot := n } := by
  have hk : Keeps (OneB b) w (w.setCell ⟨b, 1, none⟩ (.int .i64 n)) := (Keeps.refl _ _).setOne 1 _
  exact ⟨h.box.set 1 _, h.win.keeps hk (fun g hg h9 => (h.fv g hg).2 h9), h.fb, h.fv, fun k hF => Nat.lt_of_lt_of_le (h.lt k hF) hk.size, h.sts⟩
theorem TalkAt.putSt (h : TalkAt w F b v T) (m : Nat) (hm : m < 16) (s : St) :
    TalkAt (((w.setCell ⟨b, 2 + m * 3, none⟩ (.bool s.inn)).setCell ⟨b, 2 + m * 3 + 1, none⟩ (.int .i64 s.joined)).setCell ⟨b, 2 + m * 3 + 2, none⟩ (.int .i64 s.last)) F b v { T with st := T.st.set m s } := by
  have hk : Keeps (OneB b) w (((w.setCell ⟨b, 2 + m * 3, none⟩ (.bool s.inn)).setCell ⟨b, 2 + m * 3 + 1, none⟩ (.int .i64 s.joined)).setCell ⟨b, 2 + m * 3 + 2, none⟩ (.int .i64 s.last)) := (((Keeps.refl _ _).setOne _ _).setOne _ _).setOne _ _
  have hl := stsC_len T.st
  have hs := h.sts
  have hb := ((h.box.set (2 + m * 3) (.bool s.inn)).set (2 + m * 3 + 1) (.int .i64 s.joined)).set (2 + m * 3 + 2) (.int .i64 s.last)
  have e : ((((T.cells v).set (2 + m * 3) (.bool s.inn)).set (2 + m * 3 + 1) (.int .i64 s.joined)).set (2 + m * 3 + 2) (.int .i64 s.last)) = ({ T with st := T.st.set m s } : TA).cells v := by
    unfold TA.cells
    rw [show 2 + m * 3 = (m * 3) + 1 + 1 by omega, show m * 3 + 1 + 1 + 1 = (m * 3 + 1) + 1 + 1 by omega, show m * 3 + 1 + 1 + 2 = (m * 3 + 2) + 1 + 1 by omega]
    simp only [List.set_cons_succ]
    rw [List.set_append_left _ _ (by omega), List.set_append_left _ _ (by rw [List.length_set]; omega), List.set_append_left _ _ (by rw [List.length_set, List.length_set]; omega), stsC_set _ _ _ (by omega)]
  rw [e] at hb
  exact ⟨hb, h.win.keeps hk (fun g hg h9 => (h.fv g hg).2 h9), h.fb, h.fv, fun k hF => Nat.lt_of_lt_of_le (h.lt k hF) hk.size, by simpa using h.sts⟩
end
def TA.put (T : TA) (e : En) : TA := { l := T.l ++ [⟨(T.l.length : Int), T.slot, e⟩], slot := T.slot + 1, st := T.st.set e.member.toNat (countsR T e).1 }
theorem apply_ok {F : Nat → Prop} (w : World) (b : Nat) (T : TA) (e : En) (h : TalkX w F b T) (hI : I64 e.kind) (he : enB e = true) (hc : (countsR T e).2 = true) (h0 : 0 ≤ T.slot) (h4 : T.slot < 4096) (hl : T.l.length ≤ 4096)
    (hC : e.kind = 4 → ∀ w1, Ext w w1 → Calls Tryd.prog 65 #[.string (bs e.text)] w1 fun r w' => r = .returned (.int .i64 (chk e.text : Int)) ∧ Ext w1 w') :
    Calls Tryd.prog 35 #[.pointer (some ⟨b, 0, none⟩), .int .i64 T.slot, e.v] w fun r w' => ∃ F', r = .returned (.tuple #[(⟨(T.l.length : Int), T.slot, e⟩ : Ln).v, .bool true, .int .i64 0]) ∧ TalkX w' F' b (T.put e) ∧ Keeps F w w' ∧ ∀ k, F' k → F k ∨ w.heap.size ≤ k := by
  have HT := Lib.hid h
  have HI := Lib.hid hI
  have HC := Lib.hid hC
  have HN := Lib.hid he
  have HCT := Lib.hid hc
  have HL := Lib.hid hl
  have H0 := Lib.hid h0
  have g1 : ¬ 4096 ≤ T.slot := by omega
  obtain ⟨kind, member, number, text⟩ := e
  obtain ⟨m, hm, h16⟩ := enB_mem he
  dsimp only at hm
  subst hm
  have HM := Lib.hid h16
  clear h hI hC he hc h0 h4 hl h16
  unfold En.v
  go_enter Tryd.func35, Tryd.ntmps35
  go_wp2_with fail
  have bx0 := ((Box.new w 35 [.int .i64 kind, .int .i64 (m : Int), .int .i64 number, .string (bs text)]).alloc (Obj.cells #[.int .i64 0, .int .i64 0, .int .i64 0, .int .i64 0, .int .i64 0, .string ⟨#[]⟩] 58))
  have bx1 := (Box.new (w.alloc (Obj.cells #[.int .i64 kind, .int .i64 (m : Int), .int .i64 number, .string (bs text)] 35)) 58 [.int .i64 0, .int .i64 0, .int .i64 0, .int .i64 0, .int .i64 0, .string ⟨#[]⟩])
  have ex : Ext w ((w.alloc (Obj.cells #[.int .i64 kind, .int .i64 (m : Int), .int .i64 number, .string (bs text)] 35)).alloc (Obj.cells #[.int .i64 0, .int .i64 0, .int .i64 0, .int .i64 0, .int .i64 0, .string ⟨#[]⟩] 58)) := (((Keeps.refl NoB w).alloc _).alloc _)
  have sx : ((w.alloc (Obj.cells #[.int .i64 kind, .int .i64 (m : Int), .int .i64 number, .string (bs text)] 35)).alloc (Obj.cells #[.int .i64 0, .int .i64 0, .int .i64 0, .int .i64 0, .int .i64 0, .string ⟨#[]⟩] 58)).heap.size = w.heap.size + 2 := by simp
  simp only [World.size_alloc] at bx1
  generalize ((w.alloc (Obj.cells #[.int .i64 kind, .int .i64 (m : Int), .int .i64 number, .string (bs text)] 35)).alloc (Obj.cells #[.int .i64 0, .int .i64 0, .int .i64 0, .int .i64 0, .int .i64 0, .string ⟨#[]⟩] 58)) = w0 at bx0 bx1 ex sx ⊢
  have Sx := Lib.hid sx
  clear sx
  have B0 := Lib.hid bx0
  have B1 := Lib.hid bx1
  have HE := Lib.hid ex
  have HLT := Lib.hid (show ∀ k, F k → k < w.heap.size from let ⟨_, h⟩ := HT.out; h.lt)
  replace HT := Lib.hid (HT.out.ext ex)
  clear bx0 bx1 ex
  refine (talk_none w0 b T HT.out).mono ?_
  rintro r w' ⟨rfl, rfl⟩
  obtain ⟨cB0, zB0⟩ := B0.out.reads
  have lB0 := B0.out.lt
  go_wp2_with fail
  refine (right_any w' ⟨kind, m, number, text⟩ HI.out (fun hk W hW => HC.out hk W (HE.out.ext hW))).mono ?_
  rintro r w2 ⟨rfl, hE2⟩
  clear cB0 zB0 lB0
  rw [HN.out]
  replace HT := Lib.hid (HT.out.ext hE2)
  replace HE := Lib.hid (HE.out.ext hE2)
  replace B0 := Lib.hid (B0.out.ext hE2)
  replace B1 := Lib.hid (B1.out.ext hE2)
  have HZ : Hid (w.heap.size + 2 ≤ w2.heap.size) := Lib.hid (by have := hE2.size; have := Sx.out; omega)
  clear hE2
  obtain ⟨v, hat⟩ := HT.out
  obtain ⟨c0, c1, c50, lt⟩ := hat.see
  have z1 := hat.box.reads.2 1
  have hu := hat.putSlot (wrap64 (T.slot + 1))
  have HAT := Lib.hid hu
  have hbF := HLT.out b hat.fb
  have HFB := Lib.hid hat.fb
  clear hat hu c0 c50
  have e1 : ¬ w.heap.size = b := by omega
  have e2 : ¬ b = w.heap.size := by omega
  obtain ⟨cB0, zB0⟩ := B0.out.reads
  have lB0 := B0.out.lt
  go_wp2_with fail
  clear cB0 zB0 lB0
  have hk : Keeps (OneB b) w2 (w2.setCell ⟨b, 1, none⟩ (.int .i64 (wrap64 (T.slot + 1)))) := (Keeps.refl _ _).setOne 1 _
  generalize w2.setCell ⟨b, 1, none⟩ (.int .i64 (wrap64 (T.slot + 1))) = w3 at hk HAT ⊢
  have e3 : ¬ w.heap.size + 1 = b := by omega
  replace B0 := Lib.hid (B0.out.keeps hk (show ¬ OneB b _ from e1))
  replace B1 := Lib.hid (B1.out.keeps hk (show ¬ OneB b _ from e3))
  have HK : Hid (Keeps F w w3) := Lib.hid ((Ext.keeps HE.out).then hk (fun i hi h => by obtain rfl : i = b := h; exact HFB.out))
  replace HZ : Hid (w.heap.size + 2 ≤ w3.heap.size) := Lib.hid (by have := hk.size; have := HZ.out; omega)
  clear hk c1 lt z1 HT
  refine (counts_any w3 b _ kind m number text ⟨v, HAT.out⟩ HM.out HI.out).mono ?_
  rintro r w4 ⟨rfl, hE4⟩
  have hceq : countsR { T with slot := wrap64 (T.slot + 1) } ⟨kind, (m : Int), number, text⟩ = countsR T ⟨kind, (m : Int), number, text⟩ := rfl
  rw [hceq]
  obtain ⟨⟨i0, j0, l0⟩, is, hcr⟩ : ∃ s is, countsR T ⟨kind, (m : Int), number, text⟩ = (s, is) := ⟨_, _, rfl⟩
  obtain rfl : is = true := by have := HCT.out; rw [hcr] at this; exact this
  rw [hcr]
  have HCR := Lib.hid hcr
  replace HAT := Lib.hid (HAT.out.keeps hE4 fun _ _ => noB _)
  replace B0 := Lib.hid (B0.out.ext hE4)
  replace B1 := Lib.hid (B1.out.ext hE4)
  replace HK := Lib.hid (HK.out.ext hE4)
  replace HZ : Hid (w.heap.size + 2 ≤ w4.heap.size) := Lib.hid (by have := hE4.size; have := HZ.out; omega)
  clear hE4 hcr hceq
  unfold St.v
  go_wp2_with fail
  have by0 := (Box.new w4 90 [.bool i0, .int .i64 j0, .int .i64 l0])
  have ey : Ext w4 (w4.alloc (Obj.cells #[.bool i0, .int .i64 j0, .int .i64 l0] 90)) := ((Keeps.refl NoB w4).alloc _)
  have sy : (w4.alloc (Obj.cells #[.bool i0, .int .i64 j0, .int .i64 l0] 90)).heap.size = w4.heap.size + 1 := by simp
  generalize (w4.alloc (Obj.cells #[.bool i0, .int .i64 j0, .int .i64 l0] 90)) = w5 at by0 ey sy ⊢
  have Sy := Lib.hid sy
  clear sy
  have BS := Lib.hid by0
  replace HAT := Lib.hid (HAT.out.keeps ey fun _ _ => noB _)
  replace B0 := Lib.hid (B0.out.ext ey)
  replace B1 := Lib.hid (B1.out.ext ey)
  replace HK := Lib.hid (HK.out.ext ey)
  have h45 := HK.out.size
  clear by0 ey
  obtain ⟨p0, q0, rfl⟩ := HAT.out.len
  obtain ⟨c0, c1, c50, lt⟩ := HAT.out.see
  have n0 : ¬ OneB (w.heap.size + 1) w.heap.size := by unfold OneB; omega
  have n1 : ¬ OneB (w.heap.size + 1) b := fun h => e3 (Eq.symm h)
  clear c1 c50
  obtain ⟨cB0, zB0⟩ := B0.out.reads
  have lB0 := B0.out.lt
  obtain ⟨cB1, zB1⟩ := B1.out.reads
  have lB1 := B1.out.lt
  have hE0 : Keeps (OneB (w.heap.size + 1)) w5 w5.drew := (Keeps.refl _ _).drew
  refine wp_region_plan [(0, 0), (0, 1), (0, 2), (3, 3), (0, 4), (0, 5), (3, 6), (0, 7)] [] [8] [8] (ClsK (OneB (w.heap.size + 1)) w5) (by kernel_rfl) (by kernel_rfl) (by kernel_rfl) rfl rfl (ClsK.of hE0) (fun _ _ _ d _ h => by cases d <;> exact h) ?_; simp only [planL, List.getElem?_toArray, List.getElem?_cons_succ, List.getElem?_cons_zero]
  refine plan_pure rfl (fun K hK => quiet_move' _ rfl (hK _ ?_)); clear hK K; simp only [Act.put, Act.eval, Array.getD_eq_getD_getElem?, List.getElem?_toArray, List.getElem?_cons_zero, Option.getD_some, List.setIfInBounds_toArray, List.set_cons_zero, List.set_cons_succ]
  refine plan_pure rfl (fun K hK => quiet_run (v := ?_) (fun W _ => ?_) (hK _ ?_)); rotate_left; (go_simp <;> with_reducible rfl); clear hK K; simp only [Act.put, List.setIfInBounds_toArray, List.set_cons_zero, List.set_cons_succ]
  refine plan_pure rfl (fun K hK => quiet_run (v := ?_) (fun W _ => ?_) (hK _ ?_)); rotate_left; (go_simp <;> with_reducible rfl); clear hK K; simp only [Act.put, List.setIfInBounds_toArray, List.set_cons_zero, List.set_cons_succ]
  refine plan_exact rfl (fun K hK => quiet_runX (v := ?_) ?_ (hK _ ?_)); rotate_left; (go_simp <;> with_reducible rfl); clear hK K; simp only [Act.put, List.setIfInBounds_toArray, List.set_cons_zero, List.set_cons_succ]
  refine plan_pure rfl (fun K hK => quiet_run (v := ?_) (fun W _ => ?_) (hK _ ?_)); rotate_left; (go_simp <;> with_reducible rfl); clear hK K; simp only [Act.put, List.setIfInBounds_toArray, List.set_cons_zero, List.set_cons_succ]
  refine plan_pure rfl (fun K hK => quiet_move' _ rfl (hK _ ?_)); clear hK K; simp only [Act.put, Act.eval, Array.getD_eq_getD_getElem?, List.getElem?_toArray, List.getElem?_cons_zero, List.getElem?_cons_succ, Option.getD_some, List.setIfInBounds_toArray, List.set_cons_zero, List.set_cons_succ]
  refine plan_exact rfl (fun K hK => quiet_runX (v := ?_) ?_ (hK _ ?_)); rotate_left; (go_simp <;> with_reducible rfl); clear hK K; simp only [Act.put, List.setIfInBounds_toArray, List.set_cons_zero, List.set_cons_succ]
  refine plan_pure rfl (fun K hK => quiet_run (v := ?_) (fun W _ => ?_) (hK _ ?_)); rotate_left; (go_simp <;> with_reducible rfl); clear hK K; simp only [Act.put, List.setIfInBounds_toArray, List.set_cons_zero, List.set_cons_succ]
  refine plan_nil ?_; simp only [tailL, List.filterMap_cons, List.filterMap_nil, List.getElem?_toArray, List.getElem?_cons_succ, List.getElem?_cons_zero]; change wpList _ _ _ (_ :: []) _ _
  go_wp2_with fail
  clear cB0 zB0 lB0 cB1 zB1 lB1
  have hk6 : Keeps (OneB (w.heap.size + 1)) w5 ((((((w5.setCell ⟨w.heap.size + 1, 0, none⟩ (.int .i64 (T.l.length : Int))).setCell ⟨w.heap.size + 1, 1, none⟩ (.int .i64 T.slot)).setCell ⟨w.heap.size + 1, 2, none⟩ (.int .i64 kind)).setCell ⟨w.heap.size + 1, 3, none⟩ (.int .i64 (m : Int))).setCell ⟨w.heap.size + 1, 4, none⟩ (.int .i64 number)).setCell ⟨w.heap.size + 1, 5, none⟩ (.string (bs text))).drew := (((((((Keeps.refl (OneB (w.heap.size + 1)) w5).setOne 0 (.int .i64 (T.l.length : Int))).setOne 1 (.int .i64 T.slot)).setOne 2 (.int .i64 kind)).setOne 3 (.int .i64 (m : Int))).setOne 4 (.int .i64 number)).setOne 5 (.string (bs text))).drew
  have hb6 := ((((((B1.out.set 0 (.int .i64 (T.l.length : Int))).set 1 (.int .i64 T.slot)).set 2 (.int .i64 kind)).set 3 (.int .i64 (m : Int))).set 4 (.int .i64 number)).set 5 (.string (bs text))).drew
  dsimp only [List.set_cons_zero, List.set_cons_succ] at hb6
  generalize ((((((w5.setCell ⟨w.heap.size + 1, 0, none⟩ (.int .i64 (T.l.length : Int))).setCell ⟨w.heap.size + 1, 1, none⟩ (.int .i64 T.slot)).setCell ⟨w.heap.size + 1, 2, none⟩ (.int .i64 kind)).setCell ⟨w.heap.size + 1, 3, none⟩ (.int .i64 (m : Int))).setCell ⟨w.heap.size + 1, 4, none⟩ (.int .i64 number)).setCell ⟨w.heap.size + 1, 5, none⟩ (.string (bs text))).drew = w6 at hk6 hb6 ⊢
  have hs4 := Sy.out
  have HN4 := HZ
  replace B1 := Lib.hid hb6
  replace B0 := Lib.hid (B0.out.keeps hk6 n0)
  replace BS := Lib.hid (BS.out.keeps hk6 (show ¬ OneB (w.heap.size + 1) _ by unfold OneB; have := HN4.out; omega))
  replace HAT := Lib.hid (HAT.out.keeps hk6 (fun k hF h => by have h1 := HLT.out k hF; have h2 : k = w.heap.size + 1 := h; omega))
  replace HK : Hid (Keeps F w w6) := Lib.hid (HK.out.then hk6 (fun i hi h => by have h2 : i = w.heap.size + 1 := h; omega))
  have hup := HAT.out.putSt m HM.out ⟨i0, j0, l0⟩
  have HUP := Lib.hid hup
  obtain ⟨s0, s1, s2⟩ := HAT.out.st m HM.out
  have zz := HAT.out.box.reads.2
  have lt6 := HAT.out.box.lt
  have f0 : ¬ OneB b w.heap.size := e1
  have f1 : ¬ OneB b w4.heap.size := by have := HN4.out; unfold OneB; omega
  have g3 : (m : Int) < 16 := by have := HM.out; omega
  have g4 : ¬ (m : Int) < 0 := by omega
  clear hk6 hb6 hup n0 n1 c0 lt hs4
  obtain ⟨cB0, zB0⟩ := B0.out.reads
  have lB0 := B0.out.lt
  obtain ⟨cBS, zBS⟩ := BS.out.reads
  have lBS := BS.out.lt
  have hE0 : Keeps (OneB b) w6 w6.drew := (Keeps.refl _ _).drew
  refine wp_region_plan [(0, 0), (0, 1), (3, 2), (3, 3), (0, 4), (0, 5), (0, 6)] [] [7] [7] (ClsK (OneB b) w6) (by kernel_rfl) (by kernel_rfl) (by kernel_rfl) rfl rfl (ClsK.of hE0) (fun _ _ _ d _ h => by cases d <;> exact h) ?_; simp only [planL, List.getElem?_toArray, List.getElem?_cons_succ, List.getElem?_cons_zero]
  refine plan_pure rfl (fun K hK => quiet_move' _ rfl (hK _ ?_)); clear hK K; simp only [Act.put, Act.eval, Array.getD_eq_getD_getElem?, List.getElem?_toArray, List.getElem?_cons_zero, Option.getD_some, List.setIfInBounds_toArray, List.set_cons_zero, List.set_cons_succ]
  refine plan_pure rfl (fun K hK => quiet_run (v := ?_) (fun W _ => ?_) (hK _ ?_)); rotate_left; (go_simp <;> with_reducible rfl); clear hK K; simp only [Act.put, List.setIfInBounds_toArray, List.set_cons_zero, List.set_cons_succ]
  refine plan_exact rfl (fun K hK => quiet_runX (v := ?_) ?_ (hK _ ?_)); rotate_left; (go_simp <;> with_reducible rfl); clear hK K; simp only [Act.put, List.setIfInBounds_toArray, List.set_cons_zero, List.set_cons_succ]
  refine plan_exact rfl (fun K hK => quiet_runX (v := ?_) ?_ (hK _ ?_)); rotate_left; (go_simp <;> with_reducible rfl); clear hK K; simp only [Act.put, List.setIfInBounds_toArray, List.set_cons_zero, List.set_cons_succ]
  refine plan_pure rfl (fun K hK => quiet_run (v := ?_) (fun W _ => ?_) (hK _ ?_)); rotate_left; (go_simp <;> with_reducible rfl); clear hK K; simp only [Act.put, List.setIfInBounds_toArray, List.set_cons_zero, List.set_cons_succ]
  refine plan_pure rfl (fun K hK => quiet_run (v := ?_) (fun W _ => ?_) (hK _ ?_)); rotate_left; (go_simp <;> with_reducible rfl); clear hK K; simp only [Act.put, List.setIfInBounds_toArray, List.set_cons_zero, List.set_cons_succ]
  refine plan_pure rfl (fun K hK => quiet_run (v := ?_) (fun W _ => ?_) (hK _ ?_)); rotate_left; (go_simp <;> with_reducible rfl); clear hK K; simp only [Act.put, List.setIfInBounds_toArray, List.set_cons_zero, List.set_cons_succ]
  refine plan_nil ?_; simp only [tailL, List.filterMap_cons, List.filterMap_nil, List.getElem?_toArray, List.getElem?_cons_succ, List.getElem?_cons_zero]; change wpList _ _ _ (_ :: []) _ _
  go_wp2_with fail
  clear cB0 zB0 lB0 cBS zBS lBS
  have hk7 : Keeps (OneB b) w6 (((w6.setCell ⟨b, 2 + m * 3, none⟩ (.bool i0)).setCell ⟨b, 2 + m * 3 + 1, none⟩ (.int .i64 j0)).setCell ⟨b, 2 + m * 3 + 2, none⟩ (.int .i64 l0)).drew := ((((Keeps.refl (OneB b) w6).setOne (2 + m * 3) (.bool i0)).setOne (2 + m * 3 + 1) (.int .i64 j0)).setOne (2 + m * 3 + 2) (.int .i64 l0)).drew
  have hu7 := HUP.out.keeps (w' := (((w6.setCell ⟨b, 2 + m * 3, none⟩ (.bool i0)).setCell ⟨b, 2 + m * 3 + 1, none⟩ (.int .i64 j0)).setCell ⟨b, 2 + m * 3 + 2, none⟩ (.int .i64 l0)).drew) (S := NoB) ((Keeps.refl _ _).drew) (fun _ _ => noB _)
  generalize (((w6.setCell ⟨b, 2 + m * 3, none⟩ (.bool i0)).setCell ⟨b, 2 + m * 3 + 1, none⟩ (.int .i64 j0)).setCell ⟨b, 2 + m * 3 + 2, none⟩ (.int .i64 l0)).drew = w7 at hk7 hu7 ⊢
  replace B1 := Lib.hid (B1.out.keeps hk7 (show ¬ OneB b _ from e3))
  replace HK : Hid (Keeps F w w7) := Lib.hid (HK.out.then hk7 (fun i hi h => by obtain rfl : i = b := h; exact HFB.out))
  replace HAT := Lib.hid hu7
  have H17 : Hid (w.heap.size + 1 < w7.heap.size) := Lib.hid B1.out.lt
  clear hk7 hu7 s0 s1 s2 zz lt6 f0 f1 HUP
  have hbo : ¬ Own (.slice p0 T.l.length q0) b := fun h => (HAT.out.fv b h).2 rfl
  have hlo : ¬ Own (.slice p0 T.l.length q0) (w.heap.size + 1) := fun h => by have := HLT.out _ (HAT.out.fv _ h).1; omega
  obtain ⟨c0, c1, c50, lt⟩ := HAT.out.see
  have zz := HAT.out.box.reads.2
  clear c1 c50
  obtain ⟨cB1, zB1⟩ := B1.out.reads
  have lB1 := B1.out.lt
  have hE0 : Keeps (Own (.slice p0 T.l.length q0)) w7 w7.drew := (Keeps.refl _ _).drew
  refine wp_region_plan [(0, 0), (0, 1), (0, 2), (0, 3), (1, 4), (3, 5), (2, 6)] [4] [6, 7, 8, 9, 10] [7, 8, 9, 10] (ClsK (Own (.slice p0 T.l.length q0)) w7) (by kernel_rfl) (by kernel_rfl) (by kernel_rfl) rfl rfl (ClsK.of hE0) (fun _ _ _ d _ h => by cases d <;> exact h) ?_; simp only [planL, List.getElem?_toArray, List.getElem?_cons_succ, List.getElem?_cons_zero]
  refine plan_pure rfl (fun K hK => quiet_move' _ rfl (hK _ ?_)); clear hK K; simp only [Act.put, Act.eval, Array.getD_eq_getD_getElem?, List.getElem?_toArray, List.getElem?_cons_zero, Option.getD_some, List.setIfInBounds_toArray, List.set_cons_zero, List.set_cons_succ]
  refine plan_pure rfl (fun K hK => quiet_move' _ rfl (hK _ ?_)); clear hK K; simp only [Act.put, Act.eval, Array.getD_eq_getD_getElem?, List.getElem?_toArray, List.getElem?_cons_zero, Option.getD_some, List.setIfInBounds_toArray, List.set_cons_zero, List.set_cons_succ]
  refine plan_pure rfl (fun K hK => quiet_run (v := ?_) (fun W _ => ?_) (hK _ ?_)); rotate_left; (go_simp <;> with_reducible rfl); clear hK K; simp only [Act.put, List.setIfInBounds_toArray, List.set_cons_zero, List.set_cons_succ]
  refine plan_pure rfl (fun K hK => quiet_run (v := ?_) (fun W _ => ?_) (hK _ ?_)); rotate_left; (go_simp <;> with_reducible rfl); clear hK K; simp only [Act.put, List.setIfInBounds_toArray, List.set_cons_zero, List.set_cons_succ]
  refine plan_load rfl (fun K hK => quiet_runK (v := ?_) (fun W => ?_) (hK _ ?_)); rotate_left; (go_simp <;> with_reducible rfl); clear hK K; simp only [Act.put, List.setIfInBounds_toArray, List.set_cons_zero, List.set_cons_succ]
  refine plan_exact rfl (fun K hK => quiet_runX (v := ?_) ?_ (hK _ ?_)); rotate_left; (go_simp <;> with_reducible rfl); clear hK K; simp only [Act.put, List.setIfInBounds_toArray, List.set_cons_zero, List.set_cons_succ]
  refine plan_does rfl (fun K hK => ?_)
  go_wp2_with fail
  refine ⟨ClsK.of (by repeat (first | assumption | exact Keeps.refl _ _ | refine Keeps.alloc ?_ _ | refine Keeps.setOne ?_ _ _ | refine Keeps.setCell ?_ _ _ (.inl (by first | rfl | exact .inl rfl | exact .inr rfl | omega)) | refine Keeps.drew ?_)), ?_⟩; try simp only [Act.put, List.setIfInBounds_toArray, List.set_cons_zero, List.set_cons_succ]
  refine plan_nil ?_; simp only [tailL, List.filterMap_cons, List.filterMap_nil, List.getElem?_toArray, List.getElem?_cons_succ, List.getElem?_cons_zero]; change wpList _ _ _ (_ :: _ :: _ :: _ :: []) _ _
  clear cB1 zB1 lB1
  go_wp2_with (at_builtin; refine standing ?_)
  have bz0 := (Box.new w7 58 [.int .i64 (T.l.length : Int), .int .i64 T.slot, .int .i64 kind, .int .i64 (m : Int), .int .i64 number, .string (bs text)])
  have ez : Ext w7 (w7.alloc (Obj.cells #[.int .i64 (T.l.length : Int), .int .i64 T.slot, .int .i64 kind, .int .i64 (m : Int), .int .i64 number, .string (bs text)] 58)) := ((Keeps.refl NoB w7).alloc _)
  have sz : (w7.alloc (Obj.cells #[.int .i64 (T.l.length : Int), .int .i64 T.slot, .int .i64 kind, .int .i64 (m : Int), .int .i64 number, .string (bs text)] 58)).heap.size = w7.heap.size + 1 := by simp
  generalize (w7.alloc (Obj.cells #[.int .i64 (T.l.length : Int), .int .i64 T.slot, .int .i64 kind, .int .i64 (m : Int), .int .i64 number, .string (bs text)] 58)) = w8 at bz0 ez sz ⊢
  have Sz := Lib.hid sz
  clear sz
  have e78 : Ext w7 w8.drew := ez.drew
  have hll := HL.out
  have hat8 := HAT.out.keeps e78 (fun _ _ => noB _)
  obtain ⟨v9, w9, hr9, hwin9, hk9, ho9⟩ := append_lines w8.drew 0 (.slice p0 T.l.length q0) T.l 88 hat8.win (.slice (some ⟨w7.heap.size, 0, none⟩) 1 1) [⟨(T.l.length : Int), T.slot, ⟨kind, m, number, text⟩⟩] (Box.src bz0.drew 1 1) (by simp; omega) (Nat.zero_le _)
  rw [show (T.l ++ [(⟨(T.l.length : Int), T.slot, ⟨kind, m, number, text⟩⟩ : Ln)]).length = T.l.length + 1 by simp] at hwin9
  obtain ⟨p9, q9, rfl⟩ := hwin9.len
  have hK79 : Keeps (Own (.slice p0 T.l.length q0)) w7 w9 := (Ext.keeps e78).trans hk9
  have HB9 := Lib.hid (hat8.box.keeps hk9 hbo)
  replace B1 := Lib.hid (B1.out.keeps hK79 hlo)
  replace HK : Hid (Keeps F w w9) := Lib.hid (HK.out.then hK79 (fun i hi h => (HAT.out.fv i h).1))
  have HW9 := Lib.hid hwin9
  have HO9 := Lib.hid ho9
  have HZ9 : Hid (w7.heap.size < w9.heap.size ∧ w7.heap.size < w8.heap.size ∧ w8.heap.size ≤ w9.heap.size) := Lib.hid (by have h1 := bz0.lt; have h2 := hk9.size; have h3 : w8.drew.heap.size = w8.heap.size := rfl; omega)
  clear e78 hll hat8 hwin9 hk9 ho9 hK79 bz0 ez c0 lt zz
  have d0 : w9.cell? ⟨b, 0, none⟩ = some (.slice p0 T.l.length q0) := HB9.out.reads.1 0
  have dz := HB9.out.reads.2
  have dl := HB9.out.lt
  refine ⟨?_⟩
  refine wpList_append_ran rfl _ _ hr9 rfl rfl rfl ?_
  clear hr9
  obtain ⟨cB1, zB1⟩ := B1.out.reads
  have lB1 := B1.out.lt
  go_wp2_with fail
  clear cB1 zB1 lB1
  have e4 : b ≠ w.heap.size + 1 := fun h => e3 h.symm
  have hkW : Keeps (TwoB b (w.heap.size + 1)) w9 (((((((w9.setCell ⟨b, 0, none⟩ (.slice p9 (T.l.length + 1) q9)).setCell ⟨w.heap.size + 1, 0, none⟩ (.int .i64 (T.l.length : Int))).setCell ⟨w.heap.size + 1, 1, none⟩ (.int .i64 T.slot)).setCell ⟨w.heap.size + 1, 2, none⟩ (.int .i64 kind)).setCell ⟨w.heap.size + 1, 3, none⟩ (.int .i64 (m : Int))).setCell ⟨w.heap.size + 1, 4, none⟩ (.int .i64 number)).setCell ⟨w.heap.size + 1, 5, none⟩ (.string (bs text))) := ((((((((Keeps.refl (TwoB b (w.heap.size + 1)) w9).setCell ⟨b, 0, none⟩ (.slice p9 (T.l.length + 1) q9) (.inl (.inl rfl))).setCell ⟨w.heap.size + 1, 0, none⟩ (.int .i64 (T.l.length : Int)) (.inl (.inr rfl))).setCell ⟨w.heap.size + 1, 1, none⟩ (.int .i64 T.slot) (.inl (.inr rfl))).setCell ⟨w.heap.size + 1, 2, none⟩ (.int .i64 kind) (.inl (.inr rfl))).setCell ⟨w.heap.size + 1, 3, none⟩ (.int .i64 (m : Int)) (.inl (.inr rfl))).setCell ⟨w.heap.size + 1, 4, none⟩ (.int .i64 number) (.inl (.inr rfl))).setCell ⟨w.heap.size + 1, 5, none⟩ (.string (bs text)) (.inl (.inr rfl)))
  have q := (((((((B1.out.other ⟨b, 0, none⟩ (.slice p9 (T.l.length + 1) q9) e3).set 0 (.int .i64 (T.l.length : Int))).set 1 (.int .i64 T.slot)).set 2 (.int .i64 kind)).set 3 (.int .i64 (m : Int))).set 4 (.int .i64 number)).set 5 (.string (bs text)))
  dsimp only [List.set_cons_zero, List.set_cons_succ] at q
  have hbW := (((((((HB9.out.set 0 (.slice p9 (T.l.length + 1) q9)).other ⟨w.heap.size + 1, 0, none⟩ (.int .i64 (T.l.length : Int)) e4).other ⟨w.heap.size + 1, 1, none⟩ (.int .i64 T.slot) e4).other ⟨w.heap.size + 1, 2, none⟩ (.int .i64 kind) e4).other ⟨w.heap.size + 1, 3, none⟩ (.int .i64 (m : Int)) e4).other ⟨w.heap.size + 1, 4, none⟩ (.int .i64 number) e4).other ⟨w.heap.size + 1, 5, none⟩ (.string (bs text)) e4)
  have q1 := q.reads.1
  have hput : T.put ⟨kind, m, number, text⟩ = ⟨T.l ++ [⟨(T.l.length : Int), T.slot, ⟨kind, m, number, text⟩⟩], wrap64 (T.slot + 1), T.st.set m ⟨i0, j0, l0⟩⟩ := by
    unfold TA.put
    rw [HCR.out, IntWalk.wrap64_in _ (by have := H0.out; omega)]
    rfl
  rw [hput]
  have hlt := HLT.out
  have hz := HZ9.out
  have h17 := H17.out
  have hko := HK.out.size
  refine bodyPost_ret (v := .tuple #[(⟨(T.l.length : Int), T.slot, ⟨kind, m, number, text⟩⟩ : Ln).v, .bool true, .int .i64 0]) (by simp [results, Tryd.results35, go_sem, q1, Ln.v]) rfl ⟨fun k => F k ∨ (w8.heap.size ≤ k ∧ k < w9.heap.size), rfl, ⟨.slice p9 (T.l.length + 1) q9, hbW, ?_, .inl HFB.out, ?_, ?_, by simpa using HAT.out.sts⟩, ?_, ?_⟩
  · have hw : Win _ 0 6 (.slice p9 (T.l.length + 1) q9) (T.l.length + 1) (lnsC (T.l ++ [(⟨(T.l.length : Int), T.slot, ⟨kind, m, number, text⟩⟩ : Ln)])) := HW9.out.keeps hkW (fun g hg h => by
      rcases HO9.out with h1 | h1
      · rw [h1] at hg
        have h2 := HAT.out.fv g hg
        have h3 := hlt g h2.1
        rcases h with h | h
        · exact h2.2 h
        · omega
      · rw [h1] at hg
        have h2 : w8.drew.heap.size = g := Option.some.inj hg
        have h3 : w8.drew.heap.size = w8.heap.size := rfl
        rcases h with h | h <;> omega)
    show Win _ 0 6 _ (T.l ++ [(⟨(T.l.length : Int), T.slot, ⟨kind, m, number, text⟩⟩ : Ln)]).length _
    rw [show (T.l ++ [(⟨(T.l.length : Int), T.slot, ⟨kind, m, number, text⟩⟩ : Ln)]).length = T.l.length + 1 by simp]
    exact hw
  · intro g hg
    rcases HO9.out with h1 | h1
    · rw [h1] at hg
      have h2 := HAT.out.fv g hg
      exact ⟨.inl h2.1, h2.2⟩
    · have hb9 := (HW9.out.block g hg).2
      rw [h1] at hg
      have h2 : w8.drew.heap.size = g := Option.some.inj hg
      have h3 : w8.drew.heap.size = w8.heap.size := rfl
      exact ⟨.inr ⟨by omega, hb9⟩, by omega⟩
  · intro k hk
    have h1 := hkW.size
    rcases hk with hk | hk
    · have := hlt k hk; omega
    · have := hk.2; omega
  · exact HK.out.then hkW (fun i hi h => by
      rcases h with h | h
      · obtain rfl : i = b := h; exact HFB.out
      · omega)
  · intro k hk
    rcases hk with hk | hk
    · exact .inl hk
    · have := hk.1; exact .inr (by omega)
end Go.Proofs.YthhdgjofagdjeaaDoor
