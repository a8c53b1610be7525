/- A talk's line, a talk's copy. Condition: it lies as 'TalkAt' says. -/
import Derived.Test.YthhdgjofagdjeaaDoorJD
set_option linter.unusedVariables false
set_option linter.unusedSimpArgs false
set_option maxHeartbeats 1000000
set_option maxRecDepth 10000
namespace Go.Proofs.YthhdgjofagdjeaaDoor
open Go.RowKit

theorem ln_at {w : World} {v : Value} {l : List Ln} (h : Win w 0 6 v l.length (lnsC l)) (i : Nat) (hi : i < l.length) :
    ∃ g o cap, v = .slice (some ⟨g, o, none⟩) l.length cap ∧ l.length ≤ cap ∧ g < w.heap.size ∧ ∀ j, j < 6 → w.cell? ⟨g, o + i * 6 + j, none⟩ = (l[i].cells)[j]? := by
  obtain ⟨g, o, cap, hv, h1, h2, h3, h4⟩ := h.form (by omega)
  refine ⟨g, o, cap, hv, h3, h2, fun j hj => ?_⟩
  have h5 : (lnsC l)[i * 6 + j]? = (l[i].cells)[j]? := lnsC_get l i j hi hj
  have h6 : j < l[i].cells.length := hj
  rw [List.getElem?_eq_getElem h6] at h5 ⊢
  have := h4 (i * 6 + j) _ h5
  rw [← Nat.add_assoc] at this
  exact this
theorem talk_line {F : Nat → Prop} (w : World) (b : Nat) (T : TA) (i : Nat) (h : TalkX w F b T) (hi : i < T.l.length) :
    Calls Tryd.prog 34 #[.pointer (some ⟨b, 0, none⟩), .int .i64 (i : Int)] w fun e w' => e = .returned (.tuple #[T.l[i].v, .int .i64 0]) ∧ Ext w w' := by
  have HT := Lib.hid h
  have h1 : ¬ (T.l.length : Int) ≤ (i : Int) := by omega
  have h2 : ¬ (i : Int) < 0 := by omega
  clear h
  obtain ⟨x, hx⟩ : ∃ x, T.l[i] = x := ⟨_, rfl⟩
  rw [hx]
  have HXI := Lib.hid hx
  clear hx
  go_enter Tryd.func34, Tryd.ntmps34
  go_wp2_with fail
  have bx0 := (Box.new w 58 [.int .i64 0, .int .i64 0, .int .i64 0, .int .i64 0, .int .i64 0, .string ⟨#[]⟩])
  have ex : Ext w (w.alloc (Obj.cells #[.int .i64 0, .int .i64 0, .int .i64 0, .int .i64 0, .int .i64 0, .string ⟨#[]⟩] 58)) := ((Keeps.refl NoB w).alloc _)
  have sx : (w.alloc (Obj.cells #[.int .i64 0, .int .i64 0, .int .i64 0, .int .i64 0, .int .i64 0, .string ⟨#[]⟩] 58)).heap.size = w.heap.size + 1 := by simp
  generalize (w.alloc (Obj.cells #[.int .i64 0, .int .i64 0, .int .i64 0, .int .i64 0, .int .i64 0, .string ⟨#[]⟩] 58)) = w0 at bx0 ex sx ⊢
  have Sx := Lib.hid sx
  clear sx
  have B0 := Lib.hid bx0
  have HE := Lib.hid ex
  replace HT := Lib.hid (HT.out.ext ex)
  clear ex bx0
  refine (talk_none w0 b T HT.out).mono ?_
  rintro e w' ⟨rfl, rfl⟩
  obtain ⟨v, h⟩ := HT.out
  obtain ⟨c0, c1, c50, lt⟩ := h.see
  obtain ⟨g, o, cap, rfl, hcap, hg, hc⟩ := ln_at h.win i hi
  rw [HXI.out] at hc
  have d0 : w'.cell? ⟨g, o + i * 6, none⟩ = some (.int .i64 x.idx) := hc 0 (by decide)
  have d1 : w'.cell? ⟨g, o + i * 6 + 1, none⟩ = some (.int .i64 x.slot) := hc 1 (by decide)
  have d2 : w'.cell? ⟨g, o + i * 6 + 2, none⟩ = some (.int .i64 x.e.kind) := hc 2 (by decide)
  have d3 : w'.cell? ⟨g, o + i * 6 + 3, none⟩ = some (.int .i64 x.e.member) := hc 3 (by decide)
  have d4 : w'.cell? ⟨g, o + i * 6 + 4, none⟩ = some (.int .i64 x.e.number) := hc 4 (by decide)
  have d5 : w'.cell? ⟨g, o + i * 6 + 5, none⟩ = some (.string (bs x.e.text)) := hc 5 (by decide)
  clear h hc
  obtain ⟨cB0, zB0⟩ := B0.out.reads
  have lB0 := B0.out.lt
  go_wp2_with fail
  clear cB0 zB0 lB0
  have hs := Sx.out
  have q := (((((B0.out.set 0 (.int .i64 x.idx)).set 1 (.int .i64 x.slot)).set 2 (.int .i64 x.e.kind)).set 3 (.int .i64 x.e.member)).set 4 (.int .i64 x.e.number)).set 5 (.string (bs x.e.text))
  dsimp only [List.set_cons_zero, List.set_cons_succ] at q
  have q1 := q.reads.1
  refine bodyPost_ret (v := .tuple #[x.v, .int .i64 0]) (by simp [results, Tryd.results34, go_sem, q1, Ln.v]) rfl ⟨rfl, ?_⟩
  exact HE.out.then ((((((Keeps.refl (OneB w.heap.size) w').setOne 0 _).setOne 1 _).setOne 2 _).setOne 3 _).setOne 4 _ |>.setOne 5 _) (fun i hi h => by unfold OneB at h; omega)
theorem infoLine : (Tryd.prog.info? 58).map (fun i => (i.zero, i.size, i.bytes)) = some (some (.agg #[.int .i64 0, .int .i64 0, .int .i64 0, .int .i64 0, .int .i64 0, .string ⟨#[]⟩]), 6, 56) := by kernel_rfl
theorem lnsC_append (l l' : List Ln) : lnsC (l ++ l') = lnsC l ++ lnsC l' := by simp [lnsC]
theorem lnsC_one (l : List Ln) : ∀ u ∈ lnsC l, u.oneCell' = true := by
  intro u hu
  obtain ⟨c, hc, huc⟩ := List.mem_flatten.1 hu
  obtain ⟨x, hx, rfl⟩ := List.mem_map.1 hc
  simp only [Ln.cells, List.mem_cons, List.not_mem_nil, or_false] at huc
  rcases huc with rfl | rfl | rfl | rfl | rfl | rfl <;> rfl
theorem own_eq {g o n c k : Nat} (h : Own (.slice (some ⟨g, o, none⟩) n c) k) : k = g := by unfold Own at h; cases h; rfl
theorem append_lines (w : World) (base : Nat) (v : Value) (l : List Ln) (ty : TypeId) (hw : Win w base 6 v l.length (lnsC l)) (x : Value) (l' : List Ln) (hsrc : SrcCells w x l'.length (lnsC l'))
    (hl : l.length + l'.length ≤ 1000000) (hb : base ≤ w.heap.size) :
    ∃ v' w', (Builtin.append_ #[88, 88] ty #[v, x]).run Tryd.prog w = .ok v' w' ∧ Win w' base 6 v' (l ++ l').length (lnsC (l ++ l')) ∧ Keeps (Own v) w w' ∧ (v'.ownBlock = v.ownBlock ∨ v'.ownBlock = some w.heap.size) := by
  obtain ⟨i0, hi, hz0, hz1, hz2⟩ := info_parts infoLine
  obtain ⟨v', w', h1, h2, h3, h4⟩ := run_append_win (P := Tryd.prog) w base 88 88 ty 58 i0 _ 6 56 Tryd.underlying88 hi hz0 hz1 hz2 rfl v l.length (lnsC l) hw
    x l'.length (lnsC l') (hsrc.toSrc Tryd.underlying88 (by rw [lnsC_len]) (lnsC_one l')) (by simp [maxLen]; omega) (by omega) hb
  exact ⟨v', w', h1, by rw [List.length_append, lnsC_append]; exact h2, h3, h4⟩
theorem eq_sliceL (w : World) (p : Addr) (n c : Nat) : (binOp .eql 88 (.slice (some p) n c) (.slice none 0 0)).run Tryd.prog w = .ok (.bool false) w := by kernel_rfl
theorem eq_noneL (w : World) (c : Nat) : (binOp .eql 88 (.slice none 0 c) (.slice none 0 0)).run Tryd.prog w = .ok (.bool true) w := by kernel_rfl
theorem clone_lines (w : World) (v : Value) (l : List Ln) (h : Win w 0 6 v l.length (lnsC l)) (hl : l.length ≤ 4096) :
    Calls Tryd.prog 55 #[v] w fun e w' => ∃ v', e = .returned v' ∧ Win w' w.heap.size 6 v' l.length (lnsC l) ∧ Ext w w' := by
  obtain ⟨a, c, rfl⟩ := h.len
  cases a with
  | none =>
    have h0 : l = [] := by
      rcases h.2 with ⟨h1, h2⟩ | ⟨g, o, cap, h1, _⟩
      · exact List.eq_nil_of_length_eq_zero h2
      · cases h1
    subst h0
    clear h
    have hq := eq_noneL w c
    simp only [List.length_nil]
    go_enter Tryd.func55, Tryd.ntmps55
    go_wp2_with fail
    go_ret
    exact ⟨_, rfl, Win.nil _ _ _, Keeps.refl _ _⟩
  | some p =>
    have e0 : Ext w (w.alloc (Obj.cells #[] 58)) := (Keeps.refl _ _).alloc _
    have hsrc := (h.ext e0).src
    obtain ⟨v1, w1, hr1, hwin1, hk1, ho1⟩ := append_lines (w.alloc (Obj.cells #[] 58)) w.heap.size (.slice (some ⟨w.heap.size, 0, none⟩) 0 0) [] 88 (Win.empty (Nat.le_refl _) (by simp)) _ l hsrc (by simp; omega) (by simp)
    simp only [List.nil_append] at hwin1
    have e1 : Ext w w1 := e0.then hk1 (fun i hi h2 => by have := own_eq h2; omega)
    have HW := Lib.hid hwin1
    have HE := Lib.hid e1
    have hq := eq_sliceL w p l.length c
    clear h e0 hwin1 hk1 ho1 e1 hsrc
    go_enter Tryd.func55, Tryd.ntmps55
    go_wp2_with (at_builtin; refine wpList_append_ran rfl _ _ hr1 rfl rfl rfl ?_)
    go_ret
    exact ⟨_, rfl, HW.out, HE.out⟩
end Go.Proofs.YthhdgjofagdjeaaDoor
