/- Texts JE, JF, JG, JH, JI, JK, JL, MapE, JM, one behind the other. Conditions: as each says. -/
import Derived.Test.YthhdgjofagdjeaaDoorPkC
import Derived.WalkLawsBesides
import Derived.DeepKeys5
import Derived.Maps.Own
section
/- A talk's line, a talk's copy. Condition: it lies as 'TalkAt' says. -/
set_option linter.unusedVariables false
set_option linter.unusedSimpArgs false
set_option maxHeartbeats 1000000
set_option maxRecDepth 10000
namespace Go.Proofs.YthhdgjofagdjeaaDoor
open Go.RowKit

theorem ln_at {w : World} {v : Value} {l : List Ln} (h : Win w 0 6 v l.length (lnsC l)) (i : Nat) (hi : i < l.length) :
    ∃ g o cap, v = .slice (some ⟨g, o, none⟩) l.length cap ∧ l.length ≤ cap ∧ g < w.heap.size ∧ ∀ j, j < 6 → w.cell? ⟨g, o + i * 6 + j, none⟩ = (l[i].cells)[j]? := by
  obtain ⟨g, o, cap, hv, h1, h2, h3, h4⟩ := h.form (by omega)
  refine ⟨g, o, cap, hv, h3, h2, fun j hj => ?_⟩
  have h5 : (lnsC l)[i * 6 + j]? = (l[i].cells)[j]? := lnsC_get l i j hi hj
  have h6 : j < l[i].cells.length := hj
  rw [List.getElem?_eq_getElem h6] at h5 ⊢
  have := h4 (i * 6 + j) _ h5
  rw [← Nat.add_assoc] at this
  exact this
theorem talk_line {F : Nat → Prop} (w : World) (b : Nat) (T : TA) (i : Nat) (h : TalkX w F b T) (hi : i < T.l.length) :
    Calls Tryd.prog 34 #[.pointer (some ⟨b, 0, none⟩), .int .i64 (i : Int)] w fun e w' => e = .returned (.tuple #[T.l[i].v, .int .i64 0]) ∧ Ext w w' := by
  have HT := Lib.hid h
  have h1 : ¬ (T.l.length : Int) ≤ (i : Int) := by omega
  have h2 : ¬ (i : Int) < 0 := by omega
  clear h
  obtain ⟨x, hx⟩ : ∃ x, T.l[i] = x := ⟨_, rfl⟩
  rw [hx]
  have HXI := Lib.hid hx
  clear hx
  go_enter Tryd.func34, Tryd.ntmps34
  go_wp2_with fail
  have bx0 := (Box.new w 58 [.int .i64 0, .int .i64 0, .int .i64 0, .int .i64 0, .int .i64 0, .string ⟨#[]⟩])
  have ex : Ext w (w.alloc (Obj.cells #[.int .i64 0, .int .i64 0, .int .i64 0, .int .i64 0, .int .i64 0, .string ⟨#[]⟩] 58)) := ((Keeps.refl NoB w).alloc _)
  have sx : (w.alloc (Obj.cells #[.int .i64 0, .int .i64 0, .int .i64 0, .int .i64 0, .int .i64 0, .string ⟨#[]⟩] 58)).heap.size = w.heap.size + 1 := by simp
  generalize (w.alloc (Obj.cells #[.int .i64 0, .int .i64 0, .int .i64 0, .int .i64 0, .int .i64 0, .string ⟨#[]⟩] 58)) = w0 at bx0 ex sx ⊢
  have Sx := Lib.hid sx
  clear sx
  have B0 := Lib.hid bx0
  have HE := Lib.hid ex
  replace HT := Lib.hid (HT.out.ext ex)
  clear ex bx0
  refine (talk_none w0 b T HT.out).mono ?_
  rintro e w' ⟨rfl, rfl⟩
  obtain ⟨v, h⟩ := HT.out
  obtain ⟨c0, c1, c50, lt⟩ := h.see
  obtain ⟨g, o, cap, rfl, hcap, hg, hc⟩ := ln_at h.win i hi
  rw [HXI.out] at hc
  have d0 : w'.cell? ⟨g, o + i * 6, none⟩ = some (.int .i64 x.idx) := hc 0 (by decide)
  have d1 : w'.cell? ⟨g, o + i * 6 + 1, none⟩ = some (.int .i64 x.slot) := hc 1 (by decide)
  have d2 : w'.cell? ⟨g, o + i * 6 + 2, none⟩ = some (.int .i64 x.e.kind) := hc 2 (by decide)
  have d3 : w'.cell? ⟨g, o + i * 6 + 3, none⟩ = some (.int .i64 x.e.member) := hc 3 (by decide)
  have d4 : w'.cell? ⟨g, o + i * 6 + 4, none⟩ = some (.int .i64 x.e.number) := hc 4 (by decide)
  have d5 : w'.cell? ⟨g, o + i * 6 + 5, none⟩ = some (.string (bs x.e.text)) := hc 5 (by decide)
  clear h hc
  obtain ⟨cB0, zB0⟩ := B0.out.reads
  have lB0 := B0.out.lt
  go_wp2_with fail
  clear cB0 zB0 lB0
  have hs := Sx.out
  have q := (((((B0.out.set 0 (.int .i64 x.idx)).set 1 (.int .i64 x.slot)).set 2 (.int .i64 x.e.kind)).set 3 (.int .i64 x.e.member)).set 4 (.int .i64 x.e.number)).set 5 (.string (bs x.e.text))
  dsimp only [List.set_cons_zero, List.set_cons_succ] at q
  have q1 := q.reads.1
  refine bodyPost_ret (v := .tuple #[x.v, .int .i64 0]) (by simp [results, Tryd.results34, go_sem, q1, Ln.v]) rfl ⟨rfl, ?_⟩
  exact HE.out.then ((((((Keeps.refl (OneB w.heap.size) w').setOne 0 _).setOne 1 _).setOne 2 _).setOne 3 _).setOne 4 _ |>.setOne 5 _) (fun i hi h => by unfold OneB at h; omega)
theorem infoLine : (Tryd.prog.info? 58).map (fun i => (i.zero, i.size, i.bytes)) = some (some (.agg #[.int .i64 0, .int .i64 0, .int .i64 0, .int .i64 0, .int .i64 0, .string ⟨#[]⟩]), 6, 56) := by kernel_rfl
theorem lnsC_append (l l' : List Ln) : lnsC (l ++ l') = lnsC l ++ lnsC l' := by simp [lnsC]
theorem lnsC_one (l : List Ln) : ∀ u ∈ lnsC l, u.oneCell' = true := by
  intro u hu
  obtain ⟨c, hc, huc⟩ := List.mem_flatten.1 hu
  obtain ⟨x, hx, rfl⟩ := List.mem_map.1 hc
  simp only [Ln.cells, List.mem_cons, List.not_mem_nil, or_false] at huc
  rcases huc with rfl | rfl | rfl | rfl | rfl | rfl <;> rfl
theorem own_eq {g o n c k : Nat} (h : Own (.slice (some ⟨g, o, none⟩) n c) k) : k = g := by unfold Own at h; cases h; rfl
theorem append_lines (w : World) (base : Nat) (v : Value) (l : List Ln) (ty : TypeId) (hw : Win w base 6 v l.length (lnsC l)) (x : Value) (l' : List Ln) (hsrc : SrcCells w x l'.length (lnsC l'))
    (hl : l.length + l'.length ≤ 1000000) (hb : base ≤ w.heap.size) :
    ∃ v' w', (Builtin.append_ #[88, 88] ty #[v, x]).run Tryd.prog w = .ok v' w' ∧ Win w' base 6 v' (l ++ l').length (lnsC (l ++ l')) ∧ Keeps (Own v) w w' ∧ (v'.ownBlock = v.ownBlock ∨ v'.ownBlock = some w.heap.size) := by
  obtain ⟨i0, hi, hz0, hz1, hz2⟩ := info_parts infoLine
  obtain ⟨v', w', h1, h2, h3, h4⟩ := run_append_win (P := Tryd.prog) w base 88 88 ty 58 i0 _ 6 56 Tryd.underlying88 hi hz0 hz1 hz2 rfl v l.length (lnsC l) hw
    x l'.length (lnsC l') (hsrc.toSrc Tryd.underlying88 (by rw [lnsC_len]) (lnsC_one l')) (by simp [maxLen]; omega) (by omega) hb
  exact ⟨v', w', h1, by rw [List.length_append, lnsC_append]; exact h2, h3, h4⟩
theorem eq_sliceL (w : World) (p : Addr) (n c : Nat) : (binOp .eql 88 (.slice (some p) n c) (.slice none 0 0)).run Tryd.prog w = .ok (.bool false) w := by kernel_rfl
theorem eq_noneL (w : World) (c : Nat) : (binOp .eql 88 (.slice none 0 c) (.slice none 0 0)).run Tryd.prog w = .ok (.bool true) w := by kernel_rfl
theorem clone_lines (w : World) (v : Value) (l : List Ln) (h : Win w 0 6 v l.length (lnsC l)) (hl : l.length ≤ 4096) :
    Calls Tryd.prog 55 #[v] w fun e w' => ∃ v', e = .returned v' ∧ Win w' w.heap.size 6 v' l.length (lnsC l) ∧ Ext w w' := by
  obtain ⟨a, c, rfl⟩ := h.len
  cases a with
  | none =>
    have h0 : l = [] := by
      rcases h.2 with ⟨h1, h2⟩ | ⟨g, o, cap, h1, _⟩
      · exact List.eq_nil_of_length_eq_zero h2
      · cases h1
    subst h0
    clear h
    have hq := eq_noneL w c
    simp only [List.length_nil]
    go_enter Tryd.func55, Tryd.ntmps55
    go_wp2_with fail
    go_ret
    exact ⟨_, rfl, Win.nil _ _ _, Keeps.refl _ _⟩
  | some p =>
    have e0 : Ext w (w.alloc (Obj.cells #[] 58)) := (Keeps.refl _ _).alloc _
    have hsrc := (h.ext e0).src
    obtain ⟨v1, w1, hr1, hwin1, hk1, ho1⟩ := append_lines (w.alloc (Obj.cells #[] 58)) w.heap.size (.slice (some ⟨w.heap.size, 0, none⟩) 0 0) [] 88 (Win.empty (Nat.le_refl _) (by simp)) _ l hsrc (by simp; omega) (by simp)
    simp only [List.nil_append] at hwin1
    have e1 : Ext w w1 := e0.then hk1 (fun i hi h2 => by have := own_eq h2; omega)
    have HW := Lib.hid hwin1
    have HE := Lib.hid e1
    have hq := eq_sliceL w p l.length c
    clear h e0 hwin1 hk1 ho1 e1 hsrc
    go_enter Tryd.func55, Tryd.ntmps55
    go_wp2_with (at_builtin; refine wpList_append_ran rfl _ _ hr1 rfl rfl rfl ?_)
    go_ret
    exact ⟨_, rfl, HW.out, HE.out⟩
end Go.Proofs.YthhdgjofagdjeaaDoor
end
section
/- A talk's copy. Condition: it lies as 'TalkAt' says. -/
set_option linter.unusedVariables false
set_option linter.unusedSimpArgs false
set_option maxHeartbeats 4000000
set_option maxRecDepth 100000
namespace Go.Proofs.YthhdgjofagdjeaaDoor
open Go.RowKit

def zTalk : List Value := [.slice none 0 0, .int .i64 0] ++ (List.replicate 16 [Value.bool false, .int .i64 0, .int .i64 0]).flatten ++ [.bool false]
theorem zeroTalk (w : World) : (zeroValue 93).run Tryd.prog w = .ok (.agg zTalk.toArray) w := by kernel_rfl
theorem infoTalk : (Tryd.prog.info? 93).map (·.size) = some 51 := by kernel_rfl
theorem infoTalk' : ∃ i, Tryd.prog.info? 93 = some i ∧ i.size = 51 := by
  have h := infoTalk
  cases hi : Tryd.prog.info? 93 with
  | none => rw [hi] at h; cases h
  | some i => rw [hi] at h; exact ⟨i, rfl, by simpa using h⟩
theorem TA.len (T : TA) (v : Value) (h : T.st.length = 16) : (T.cells v).length = 51 := by
  have := stsC_len T.st
  simp [TA.cells, this, h]
theorem stsC_one (l : List St) : ∀ u ∈ stsC l, u.oneCell' = true := by
  intro u hu
  obtain ⟨c, hc, huc⟩ := List.mem_flatten.1 hu
  obtain ⟨x, hx, rfl⟩ := List.mem_map.1 hc
  simp only [St.cells, List.mem_cons, List.not_mem_nil, or_false] at huc
  rcases huc with rfl | rfl | rfl <;> rfl
theorem TA.one (T : TA) (a : Option Addr) (n c : Nat) : ∀ u ∈ T.cells (.slice a n c), u.oneCell' = true := by
  intro u hu
  simp only [TA.cells, List.mem_cons, List.mem_append, List.not_mem_nil, or_false] at hu
  rcases hu with rfl | rfl | hu | rfl
  · rfl
  · rfl
  · exact stsC_one _ _ hu
  · rfl
theorem talk_copy {F : Nat → Prop} (w : World) (b : Nat) (T : TA) (h : TalkX w F b T) (hl : T.l.length ≤ 4096) :
    Calls Tryd.prog 32 #[.pointer (some ⟨b, 0, none⟩)] w fun e w' => ∃ b' F', e = .returned (.pointer (some ⟨b', 0, none⟩)) ∧ TalkX w' F' b' T ∧ Ext w w' ∧ ∀ k, F' k → w.heap.size ≤ k := by
  have HT := Lib.hid h
  obtain ⟨v, h⟩ := h
  obtain ⟨a, c, rfl⟩ := h.len
  have HAT := Lib.hid h
  have hlen := TA.len T (.slice a T.l.length c) h.sts
  have HLN := Lib.hid hlen
  obtain ⟨i, hi, hsz⟩ := infoTalk'
  have HI := Lib.hid hi
  have HS := Lib.hid hsz
  clear h hlen hi hsz
  go_enter Tryd.func32, Tryd.ntmps32
  go_wp2_with fail
  refine (talk_none w b _ HT.out).mono ?_
  rintro e w' ⟨rfl, rfl⟩
  go_wp2_with first
    | (refine wpList_load_wide 93 _ HAT.out.box Tryd.underlying93 rfl (infoTalk.trans (congrArg some HLN.out.symm)) rfl rfl rfl ?_)
    | (refine wpList_alloc_wide 93 (zeroTalk _) rfl rfl ?_; intro w1 hB1 hE1 hs1; replace hs1 := Lib.hid hs1; replace hB1 := Lib.hid hB1)
    | (refine wpList_store_wide 93 (vs := T.cells (.slice a T.l.length c)) _ _ hB1.out HI.out (HLN.out.trans HS.out.symm) (Eq.trans rfl HS.out.symm) (TA.one _ _ _ _) rfl rfl rfl rfl ?_; intro w2 hB2 hK2; replace hB2 := Lib.hid hB2; refine standing ?_)
  have hE2 : Ext w' w2 := hE1.then hK2 (fun i hi h => absurd (show i = w'.heap.size from h) (by omega))
  replace HT := Lib.hid (HT.out.ext hE2)
  replace HAT := Lib.hid (HAT.out.keeps hE2 fun _ _ => noB _)
  have HE := Lib.hid hE2
  have h01 := hE2.size
  have h02 := hK2.size
  have H12 := Lib.hid h02
  obtain ⟨c0, c1, c50, lt⟩ := HAT.out.see
  clear hE1 hK2 hE2 hB1 h01 h02
  refine ⟨?_⟩
  go_wp2_with fail
  refine (clone_lines w2 _ T.l HAT.out.win hl).mono ?_
  rintro e w3 ⟨v', rfl, hW3, hE3⟩
  have hB3 := hB2.out.ext hE3
  have d0 : w3.cell? ⟨w'.heap.size, 0, none⟩ = some (.slice a T.l.length c) := hB3.reads.1 0
  have dz := hB3.reads.2 0
  have dl := hB3.lt
  have HB3 := Lib.hid hB3
  have HE3 := Lib.hid (HE.out.ext hE3)
  have HW3 := Lib.hid hW3
  have H23 := Lib.hid hE3.size
  clear hB3 hW3 hE3
  obtain ⟨a', c', rfl⟩ := HW3.out.len
  go_wp2_with fail
  go_ret
  have hs := hs1.out
  have h3 := HE3.out.size
  have hk : Keeps (OneB w'.heap.size) w3 (w3.setCell ⟨w'.heap.size, 0, none⟩ (.slice a' T.l.length c')) := (Keeps.refl _ _).setOne 0 _
  have hb := HB3.out.set 0 (.slice a' T.l.length c')
  have hblk := HW3.out.block
  have h12 := H12.out
  have hw2 : w'.heap.size < w2.heap.size := by omega
  refine ⟨w'.heap.size, fun k => w'.heap.size ≤ k ∧ k < (w3.setCell ⟨w'.heap.size, 0, none⟩ (.slice a' T.l.length c')).heap.size, rfl, ⟨.slice a' T.l.length c', hb, ?_, ⟨Nat.le_refl _, hb.lt⟩, ?_, fun k hk => hk.2, HAT.out.sts⟩, ?_, fun k hk => hk.1⟩
  · refine (HW3.out.mono (Nat.zero_le _)).keeps hk fun g hg h => ?_
    have := (hblk g hg).1
    have : g = w'.heap.size := h
    omega
  · intro g hg
    have h9 := hblk g hg
    have h8 := hk.size
    exact ⟨⟨by omega, by omega⟩, by omega⟩
  · exact HE3.out.then hk fun i hi h => absurd (show i = w'.heap.size from h) (by omega)
end Go.Proofs.YthhdgjofagdjeaaDoor
end
section
/- What an entry does to a member's standing. Condition: the talk lies as 'TalkAt' says. -/
set_option linter.unusedVariables false
set_option linter.unusedSimpArgs false
set_option maxHeartbeats 1000000
set_option maxRecDepth 10000
namespace Go.Proofs.YthhdgjofagdjeaaDoor
open Go.RowKit

theorem joins_any {F : Nat → Prop} (w : World) (b : Nat) (T : TA) (s : St) (e : En) (h : TalkX w F b T) :
    Calls Tryd.prog 69 #[.pointer (some ⟨b, 0, none⟩), s.v, e.v] w fun r w' => r = .returned (.tuple #[(⟨true, (T.l.length : Int), s.last⟩ : St).v, .bool (!s.inn)]) ∧ Ext w w' := by
  obtain ⟨v, h⟩ := h
  obtain ⟨c0, c1, c50, lt⟩ := h.see
  obtain ⟨a, c, rfl⟩ := h.len
  clear h c1 c50
  unfold En.v St.v
  go_enter Tryd.func69, Tryd.ntmps69
  go_wp2_with fail
  have bx0 := (((Box.new w 90 [.bool s.inn, .int .i64 s.joined, .int .i64 s.last]).alloc (Obj.cells #[.int .i64 e.kind, .int .i64 e.member, .int .i64 e.number, .string (bs e.text)] 35)).alloc (Obj.cells #[.bool false, .int .i64 0, .int .i64 0] 90))
  have bx1 := ((Box.new (w.alloc (Obj.cells #[.bool s.inn, .int .i64 s.joined, .int .i64 s.last] 90)) 35 [.int .i64 e.kind, .int .i64 e.member, .int .i64 e.number, .string (bs e.text)]).alloc (Obj.cells #[.bool false, .int .i64 0, .int .i64 0] 90))
  have bx2 := (Box.new ((w.alloc (Obj.cells #[.bool s.inn, .int .i64 s.joined, .int .i64 s.last] 90)).alloc (Obj.cells #[.int .i64 e.kind, .int .i64 e.member, .int .i64 e.number, .string (bs e.text)] 35)) 90 [.bool false, .int .i64 0, .int .i64 0])
  have ex : Ext w (((w.alloc (Obj.cells #[.bool s.inn, .int .i64 s.joined, .int .i64 s.last] 90)).alloc (Obj.cells #[.int .i64 e.kind, .int .i64 e.member, .int .i64 e.number, .string (bs e.text)] 35)).alloc (Obj.cells #[.bool false, .int .i64 0, .int .i64 0] 90)) := ((((Keeps.refl NoB w).alloc _).alloc _).alloc _)
  have sx : (((w.alloc (Obj.cells #[.bool s.inn, .int .i64 s.joined, .int .i64 s.last] 90)).alloc (Obj.cells #[.int .i64 e.kind, .int .i64 e.member, .int .i64 e.number, .string (bs e.text)] 35)).alloc (Obj.cells #[.bool false, .int .i64 0, .int .i64 0] 90)).heap.size = w.heap.size + 3 := by simp
  simp only [World.size_alloc] at bx1 bx2
  generalize (((w.alloc (Obj.cells #[.bool s.inn, .int .i64 s.joined, .int .i64 s.last] 90)).alloc (Obj.cells #[.int .i64 e.kind, .int .i64 e.member, .int .i64 e.number, .string (bs e.text)] 35)).alloc (Obj.cells #[.bool false, .int .i64 0, .int .i64 0] 90)) = w0 at bx0 bx1 bx2 ex sx ⊢
  have Sx := Lib.hid sx
  clear sx
  have B0 := Lib.hid bx0
  have B1 := Lib.hid bx1
  have B2 := Lib.hid bx2
  have HE := Lib.hid ex
  have n0 : ¬ OneB (w.heap.size + 1 + 1) w.heap.size := by unfold OneB; omega
  have d0 := ex.cell c0
  have dl := Nat.lt_of_lt_of_le lt ex.size
  have n1 : ¬ OneB (w.heap.size + 1 + 1) b := by unfold OneB; omega
  clear bx0 bx1 bx2 ex c0 lt
  obtain ⟨cB0, zB0⟩ := B0.out.reads
  have lB0 := B0.out.lt
  obtain ⟨cB2, zB2⟩ := B2.out.reads
  have lB2 := B2.out.lt
  have hE0 : Keeps (OneB (w.heap.size + 1 + 1)) w0 w0.drew := (Keeps.refl _ _).drew
  refine wp_region_plan [(0, 0), (0, 1), (0, 2), (3, 3), (0, 4), (0, 5), (3, 6), (0, 7), (0, 8), (1, 9), (0, 10), (2, 11), (0, 12)] [9] [11] [] (ClsK (OneB (w.heap.size + 1 + 1)) w0) (by kernel_rfl) (by kernel_rfl) (by kernel_rfl) rfl rfl (ClsK.of hE0) (fun _ _ _ d _ h => by cases d <;> exact h) ?_; simp only [planL, nL]
  refine pM _ rfl rfl ?_; simp only [nP, nE]
  iterate 2 (refine pR (v := ?_) rfl (fun W => ?_) ?_; rotate_left; (go_simp <;> with_reducible rfl); simp only [nP])
  refine pX (v := ?_) rfl ?_ ?_; rotate_left; (go_simp <;> with_reducible rfl); simp only [nP]
  iterate 2 (refine pR (v := ?_) rfl (fun W => ?_) ?_; rotate_left; (go_simp <;> with_reducible rfl); simp only [nP])
  refine pX (v := ?_) rfl ?_ ?_; rotate_left; (go_simp <;> with_reducible rfl); simp only [nP]
  iterate 2 (refine pR (v := ?_) rfl (fun W => ?_) ?_; rotate_left; (go_simp <;> with_reducible rfl); simp only [nP])
  refine pK (v := ?_) rfl (fun W => ?_) ?_; rotate_left; (go_simp <;> with_reducible rfl); simp only [nP]
  refine pR (v := ?_) rfl (fun W => ?_) ?_; rotate_left; (go_simp <;> with_reducible rfl); simp only [nP]
  refine plan_does rfl (fun K hK => ?_)
  go_wp2_with fail
  refine ⟨ClsK.of (by repeat (first | assumption | exact Keeps.refl _ _ | refine Keeps.alloc ?_ _ | refine Keeps.setOne ?_ _ _ | refine Keeps.setCell ?_ _ _ (.inl (by first | rfl | exact .inl rfl | exact .inr rfl | omega)) | refine Keeps.drew ?_)), ?_⟩; try simp only [nP]
  refine pA _ rfl rfl ?_; simp only [nP, nE]
  refine plan_nil ?_; simp only [tailL, List.filterMap_nil]
  go_wp2_with fail
  clear cB0 zB0 lB0 cB2 zB2 lB2
  have hs := Sx.out
  have q := ((B2.out.set 0 (.bool true)).set 1 (.int .i64 (T.l.length : Int))).set 2 (.int .i64 s.last)
  dsimp only [List.set_cons_zero, List.set_cons_succ] at q
  have q1 := q.reads.1
  refine bodyPost_ret (v := .tuple #[.agg #[.bool true, .int .i64 (T.l.length : Int), .int .i64 s.last], .bool (!s.inn)]) (by simp [results, Tryd.results69, go_sem, q1]) rfl ⟨rfl, ?_⟩
  exact HE.out.then ((((Keeps.refl (OneB (w.heap.size + 1 + 1)) w0).setOne 0 _).setOne 1 _).setOne 2 _).drew (fun i hi h => by unfold OneB at h; omega)
theorem leaves_any {p : Value} (w : World) (s : St) (e : En) :
    Calls Tryd.prog 70 #[p, s.v, e.v] w fun r w' => r = .returned (.tuple #[(⟨false, s.joined, s.last⟩ : St).v, .bool s.inn]) ∧ Ext w w' := by
  unfold En.v St.v
  go_enter Tryd.func70, Tryd.ntmps70
  go_wp2_with fail
  have bx0 := (((Box.new w 90 [.bool s.inn, .int .i64 s.joined, .int .i64 s.last]).alloc (Obj.cells #[.int .i64 e.kind, .int .i64 e.member, .int .i64 e.number, .string (bs e.text)] 35)).alloc (Obj.cells #[.bool false, .int .i64 0, .int .i64 0] 90))
  have bx1 := ((Box.new (w.alloc (Obj.cells #[.bool s.inn, .int .i64 s.joined, .int .i64 s.last] 90)) 35 [.int .i64 e.kind, .int .i64 e.member, .int .i64 e.number, .string (bs e.text)]).alloc (Obj.cells #[.bool false, .int .i64 0, .int .i64 0] 90))
  have bx2 := (Box.new ((w.alloc (Obj.cells #[.bool s.inn, .int .i64 s.joined, .int .i64 s.last] 90)).alloc (Obj.cells #[.int .i64 e.kind, .int .i64 e.member, .int .i64 e.number, .string (bs e.text)] 35)) 90 [.bool false, .int .i64 0, .int .i64 0])
  have ex : Ext w (((w.alloc (Obj.cells #[.bool s.inn, .int .i64 s.joined, .int .i64 s.last] 90)).alloc (Obj.cells #[.int .i64 e.kind, .int .i64 e.member, .int .i64 e.number, .string (bs e.text)] 35)).alloc (Obj.cells #[.bool false, .int .i64 0, .int .i64 0] 90)) := ((((Keeps.refl NoB w).alloc _).alloc _).alloc _)
  have sx : (((w.alloc (Obj.cells #[.bool s.inn, .int .i64 s.joined, .int .i64 s.last] 90)).alloc (Obj.cells #[.int .i64 e.kind, .int .i64 e.member, .int .i64 e.number, .string (bs e.text)] 35)).alloc (Obj.cells #[.bool false, .int .i64 0, .int .i64 0] 90)).heap.size = w.heap.size + 3 := by simp
  simp only [World.size_alloc] at bx1 bx2
  generalize (((w.alloc (Obj.cells #[.bool s.inn, .int .i64 s.joined, .int .i64 s.last] 90)).alloc (Obj.cells #[.int .i64 e.kind, .int .i64 e.member, .int .i64 e.number, .string (bs e.text)] 35)).alloc (Obj.cells #[.bool false, .int .i64 0, .int .i64 0] 90)) = w0 at bx0 bx1 bx2 ex sx ⊢
  have Sx := Lib.hid sx
  clear sx
  have B0 := Lib.hid bx0
  have B1 := Lib.hid bx1
  have B2 := Lib.hid bx2
  have HE := Lib.hid ex
  have n0 : ¬ OneB (w.heap.size + 1 + 1) w.heap.size := by unfold OneB; omega
  clear bx0 bx1 bx2 ex
  obtain ⟨cB0, zB0⟩ := B0.out.reads
  have lB0 := B0.out.lt
  obtain ⟨cB2, zB2⟩ := B2.out.reads
  have lB2 := B2.out.lt
  have hE0 : Keeps (OneB (w.heap.size + 1 + 1)) w0 w0.drew := (Keeps.refl _ _).drew
  refine wp_region_plan [(0, 0), (3, 1), (0, 2), (3, 3), (0, 4), (0, 5), (1, 6), (2, 7), (0, 8)] [6] [7] [] (ClsK (OneB (w.heap.size + 1 + 1)) w0) (by kernel_rfl) (by kernel_rfl) (by kernel_rfl) rfl rfl (ClsK.of hE0) (fun _ _ _ d _ h => by cases d <;> exact h) ?_; simp only [planL, nL]
  refine pR (v := ?_) rfl (fun W => ?_) ?_; rotate_left; (go_simp <;> with_reducible rfl); simp only [nP]
  refine pX (v := ?_) rfl ?_ ?_; rotate_left; (go_simp <;> with_reducible rfl); simp only [nP]
  refine pR (v := ?_) rfl (fun W => ?_) ?_; rotate_left; (go_simp <;> with_reducible rfl); simp only [nP]
  refine pX (v := ?_) rfl ?_ ?_; rotate_left; (go_simp <;> with_reducible rfl); simp only [nP]
  iterate 2 (refine pR (v := ?_) rfl (fun W => ?_) ?_; rotate_left; (go_simp <;> with_reducible rfl); simp only [nP])
  refine pK (v := ?_) rfl (fun W => ?_) ?_; rotate_left; (go_simp <;> with_reducible rfl); simp only [nP]
  refine plan_does rfl (fun K hK => ?_)
  go_wp2_with fail
  refine ⟨ClsK.of (by repeat (first | assumption | exact Keeps.refl _ _ | refine Keeps.alloc ?_ _ | refine Keeps.setOne ?_ _ _ | refine Keeps.setCell ?_ _ _ (.inl (by first | rfl | exact .inl rfl | exact .inr rfl | omega)) | refine Keeps.drew ?_)), ?_⟩; try simp only [nP]
  refine pA _ rfl rfl ?_; simp only [nP, nE]
  refine plan_nil ?_; simp only [tailL, List.filterMap_nil]
  go_wp2_with fail
  clear cB0 zB0 lB0 cB2 zB2 lB2
  have hs := Sx.out
  have q := ((B2.out.set 0 (.bool false)).set 1 (.int .i64 s.joined)).set 2 (.int .i64 s.last)
  dsimp only [List.set_cons_zero, List.set_cons_succ] at q
  have q1 := q.reads.1
  refine bodyPost_ret (v := .tuple #[.agg #[.bool false, .int .i64 s.joined, .int .i64 s.last], .bool s.inn]) (by simp [results, Tryd.results70, go_sem, q1]) rfl ⟨rfl, ?_⟩
  exact HE.out.then ((((Keeps.refl (OneB (w.heap.size + 1 + 1)) w0).setOne 0 _).setOne 1 _).setOne 2 _).drew (fun i hi h => by unfold OneB at h; omega)
def saysB (s : St) (e : En) : Bool := s.inn && (e.number == wrap64 (s.last + 1))
theorem says_any {p : Value} (w : World) (s : St) (e : En) :
    Calls Tryd.prog 71 #[p, s.v, e.v] w fun r w' => r = .returned (.tuple #[(⟨s.inn, s.joined, e.number⟩ : St).v, .bool (saysB s e)]) ∧ Ext w w' := by
  obtain ⟨inn, joined, last⟩ := s
  cases inn
  · skip
    unfold En.v St.v
    go_enter Tryd.func71, Tryd.ntmps71
    go_wp2_with fail
    have bx0 := (((Box.new w 90 [.bool false, .int .i64 joined, .int .i64 e.number]).alloc (Obj.cells #[.int .i64 e.kind, .int .i64 e.member, .int .i64 e.number, .string (bs e.text)] 35)).alloc (Obj.cells #[.bool false, .int .i64 joined, .int .i64 e.number] 90))
    have bx1 := ((Box.new (w.alloc (Obj.cells #[.bool false, .int .i64 joined, .int .i64 e.number] 90)) 35 [.int .i64 e.kind, .int .i64 e.member, .int .i64 e.number, .string (bs e.text)]).alloc (Obj.cells #[.bool false, .int .i64 joined, .int .i64 e.number] 90))
    have bx2 := (Box.new ((w.alloc (Obj.cells #[.bool false, .int .i64 joined, .int .i64 e.number] 90)).alloc (Obj.cells #[.int .i64 e.kind, .int .i64 e.member, .int .i64 e.number, .string (bs e.text)] 35)) 90 [.bool false, .int .i64 joined, .int .i64 e.number])
    have ex : Ext w (((w.alloc (Obj.cells #[.bool false, .int .i64 joined, .int .i64 e.number] 90)).alloc (Obj.cells #[.int .i64 e.kind, .int .i64 e.member, .int .i64 e.number, .string (bs e.text)] 35)).alloc (Obj.cells #[.bool false, .int .i64 joined, .int .i64 e.number] 90)) := ((((Keeps.refl NoB w).alloc _).alloc _).alloc _)
    have sx : (((w.alloc (Obj.cells #[.bool false, .int .i64 joined, .int .i64 e.number] 90)).alloc (Obj.cells #[.int .i64 e.kind, .int .i64 e.member, .int .i64 e.number, .string (bs e.text)] 35)).alloc (Obj.cells #[.bool false, .int .i64 joined, .int .i64 e.number] 90)).heap.size = w.heap.size + 3 := by simp
    simp only [World.size_alloc] at bx1 bx2
    generalize (((w.alloc (Obj.cells #[.bool false, .int .i64 joined, .int .i64 e.number] 90)).alloc (Obj.cells #[.int .i64 e.kind, .int .i64 e.member, .int .i64 e.number, .string (bs e.text)] 35)).alloc (Obj.cells #[.bool false, .int .i64 joined, .int .i64 e.number] 90)) = w0 at bx0 bx1 bx2 ex sx ⊢
    have Sx := Lib.hid sx
    clear sx
    have q1 := bx2.reads.1
    exact bodyPost_ret (v := .tuple #[.agg #[.bool false, .int .i64 joined, .int .i64 e.number], .bool (saysB ⟨false, joined, last⟩ e)]) (by simp [results, Tryd.results71, go_sem, q1, saysB]) rfl ⟨rfl, ex⟩
  · skip
    unfold En.v St.v
    go_enter Tryd.func71, Tryd.ntmps71
    go_wp2_with fail
    have bx0 := (((Box.new w 90 [.bool true, .int .i64 joined, .int .i64 e.number]).alloc (Obj.cells #[.int .i64 e.kind, .int .i64 e.member, .int .i64 e.number, .string (bs e.text)] 35)).alloc (Obj.cells #[.bool true, .int .i64 joined, .int .i64 e.number] 90))
    have bx1 := ((Box.new (w.alloc (Obj.cells #[.bool true, .int .i64 joined, .int .i64 e.number] 90)) 35 [.int .i64 e.kind, .int .i64 e.member, .int .i64 e.number, .string (bs e.text)]).alloc (Obj.cells #[.bool true, .int .i64 joined, .int .i64 e.number] 90))
    have bx2 := (Box.new ((w.alloc (Obj.cells #[.bool true, .int .i64 joined, .int .i64 e.number] 90)).alloc (Obj.cells #[.int .i64 e.kind, .int .i64 e.member, .int .i64 e.number, .string (bs e.text)] 35)) 90 [.bool true, .int .i64 joined, .int .i64 e.number])
    have ex : Ext w (((w.alloc (Obj.cells #[.bool true, .int .i64 joined, .int .i64 e.number] 90)).alloc (Obj.cells #[.int .i64 e.kind, .int .i64 e.member, .int .i64 e.number, .string (bs e.text)] 35)).alloc (Obj.cells #[.bool true, .int .i64 joined, .int .i64 e.number] 90)) := ((((Keeps.refl NoB w).alloc _).alloc _).alloc _)
    have sx : (((w.alloc (Obj.cells #[.bool true, .int .i64 joined, .int .i64 e.number] 90)).alloc (Obj.cells #[.int .i64 e.kind, .int .i64 e.member, .int .i64 e.number, .string (bs e.text)] 35)).alloc (Obj.cells #[.bool true, .int .i64 joined, .int .i64 e.number] 90)).heap.size = w.heap.size + 3 := by simp
    simp only [World.size_alloc] at bx1 bx2
    generalize (((w.alloc (Obj.cells #[.bool true, .int .i64 joined, .int .i64 e.number] 90)).alloc (Obj.cells #[.int .i64 e.kind, .int .i64 e.member, .int .i64 e.number, .string (bs e.text)] 35)).alloc (Obj.cells #[.bool true, .int .i64 joined, .int .i64 e.number] 90)) = w0 at bx0 bx1 bx2 ex sx ⊢
    have Sx := Lib.hid sx
    clear sx
    have q1 := bx2.reads.1
    exact bodyPost_ret (v := .tuple #[.agg #[.bool true, .int .i64 joined, .int .i64 e.number], .bool (saysB ⟨true, joined, last⟩ e)]) (by simp [results, Tryd.results71, go_sem, q1, saysB]) rfl ⟨rfl, ex⟩
end Go.Proofs.YthhdgjofagdjeaaDoor
end
section
/- Whether an entry counts, and how its member stands then. Condition: the talk lies as 'TalkAt' says; the entry's member is one of sixteen. -/
set_option linter.unusedVariables false
set_option linter.unusedSimpArgs false
set_option maxHeartbeats 1000000
set_option maxRecDepth 10000
namespace Go.Proofs.YthhdgjofagdjeaaDoor
open Go.RowKit

def TA.of (T : TA) (m : Nat) : St := T.st.getD m ⟨false, 0, 0⟩
def countsR (T : TA) (e : En) : St × Bool :=
  if e.kind = 2 then (⟨true, (T.l.length : Int), (T.of e.member.toNat).last⟩, !(T.of e.member.toNat).inn)
  else if e.kind = 3 then (⟨false, (T.of e.member.toNat).joined, (T.of e.member.toNat).last⟩, (T.of e.member.toNat).inn)
  else if e.kind = 4 then (⟨(T.of e.member.toNat).inn, (T.of e.member.toNat).joined, e.number⟩, saysB (T.of e.member.toNat) e)
  else (⟨false, 0, 0⟩, false)
theorem TalkAt.st {w : World} {F : Nat → Prop} {b : Nat} {v : Value} {T : TA} (h : TalkAt w F b v T) (m : Nat) (hm : m < 16) :
    w.cell? ⟨b, 2 + m * 3, none⟩ = some (.bool (T.of m).inn) ∧ w.cell? ⟨b, 2 + m * 3 + 1, none⟩ = some (.int .i64 (T.of m).joined) ∧ w.cell? ⟨b, 2 + m * 3 + 2, none⟩ = some (.int .i64 (T.of m).last) := by
  have hl := stsC_len T.st
  have h1 := h.box.reads.1
  have hs := h.sts
  have key : ∀ j, j < 3 → w.cell? ⟨b, 2 + m * 3 + j, none⟩ = ((T.of m).cells)[j]? := by
    intro j hj
    rw [h1]
    have e1 : 2 + m * 3 + j = (m * 3 + j) + 1 + 1 := by omega
    rw [e1]
    show ((stsC T.st ++ [.bool true]) : List Value)[m * 3 + j]? = _
    rw [List.getElem?_append_left (by omega), stsC_get T.st m j (by omega) hj]
    have : T.of m = T.st[m] := by
      unfold TA.of
      rw [List.getD_eq_getElem?_getD, List.getElem?_eq_getElem (by omega)]; rfl
    rw [this]
  exact ⟨key 0 (by decide), key 1 (by decide), key 2 (by decide)⟩
def countD : List (Int × Value) := [(2, .func (.func 69) #[] #[]), (3, .func (.func 70) #[] #[]), (4, .func (.func 71) #[] #[])]
theorem look_count (k : Int) (z : Value) : (k = 2 ∧ lookI countD k z = (.func (.func 69) #[] #[], true)) ∨ ((k ≠ 2 ∧ k = 3) ∧ lookI countD k z = (.func (.func 70) #[] #[], true)) ∨
    ((k ≠ 2 ∧ k ≠ 3 ∧ k = 4) ∧ lookI countD k z = (.func (.func 71) #[] #[], true)) ∨ ((k ≠ 2 ∧ k ≠ 3 ∧ k ≠ 4) ∧ lookI countD k z = (z, false)) := by
  by_cases h1 : k = 2
  · exact .inl ⟨h1, by rw [h1]; rfl⟩
  by_cases h2 : k = 3
  · exact .inr (.inl ⟨⟨h1, h2⟩, by rw [h2]; rfl⟩)
  by_cases h4 : k = 4
  · exact .inr (.inr (.inl ⟨⟨h1, h2, h4⟩, by rw [h4]; rfl⟩))
  · refine .inr (.inr (.inr ⟨⟨h1, h2, h4⟩, ?_⟩))
    unfold lookI countD
    have a1 : ¬ (2 : Int) = k := fun h => h1 h.symm
    have a2 : ¬ (3 : Int) = k := fun h => h2 h.symm
    have a3 : ¬ (4 : Int) = k := fun h => h4 h.symm
    simp [a1, a2, a3]
theorem zeroFn3 (w : World) : (zeroValue 119).run Tryd.prog w = .ok nofn w := by kernel_rfl
theorem counts_any {F : Nat → Prop} (w : World) (b : Nat) (T : TA) (kind : Int) (m : Nat) (number : Int) (text : List UInt8) (h : TalkX w F b T) (hm : m < 16) (hI : I64 kind) :
    Calls Tryd.prog 56 #[.pointer (some ⟨b, 0, none⟩), (⟨kind, m, number, text⟩ : En).v] w fun r w' => r = .returned (.tuple #[(countsR T ⟨kind, m, number, text⟩).1.v, .bool (countsR T ⟨kind, m, number, text⟩).2]) ∧ Ext w w' := by
  have HT := Lib.hid h
  have HM := Lib.hid hm
  have HI := Lib.hid hI
  have HLT := Lib.hid (show b < w.heap.size from let ⟨_, h⟩ := h; h.box.lt)
  clear h hm hI
  unfold En.v
  go_enter Tryd.func56, Tryd.ntmps56
  go_wp2_with fail
  have bx0 := ((Box.new w 35 [.int .i64 kind, .int .i64 (m : Int), .int .i64 number, .string (bs text)]).alloc (Obj.cells #[.bool false, .int .i64 0, .int .i64 0] 90))
  have bx1 := (Box.new (w.alloc (Obj.cells #[.int .i64 kind, .int .i64 (m : Int), .int .i64 number, .string (bs text)] 35)) 90 [.bool false, .int .i64 0, .int .i64 0])
  have ex : Ext w ((w.alloc (Obj.cells #[.int .i64 kind, .int .i64 (m : Int), .int .i64 number, .string (bs text)] 35)).alloc (Obj.cells #[.bool false, .int .i64 0, .int .i64 0] 90)) := (((Keeps.refl NoB w).alloc _).alloc _)
  have sx : ((w.alloc (Obj.cells #[.int .i64 kind, .int .i64 (m : Int), .int .i64 number, .string (bs text)] 35)).alloc (Obj.cells #[.bool false, .int .i64 0, .int .i64 0] 90)).heap.size = w.heap.size + 2 := by simp
  simp only [World.size_alloc] at bx1
  generalize ((w.alloc (Obj.cells #[.int .i64 kind, .int .i64 (m : Int), .int .i64 number, .string (bs text)] 35)).alloc (Obj.cells #[.bool false, .int .i64 0, .int .i64 0] 90)) = w0 at bx0 bx1 ex sx ⊢
  have Sx := Lib.hid sx
  clear sx
  have hmm := run_makeMap (P := Tryd.prog) 122 w0
  have put := fun (w : World) (D : List (Int × Value)) (m : Nat) (h : MapI w m D) (n : Int) (hn : I64 n) (hne : ∀ p ∈ D, p.1 ≠ n) (v : Value) => h.put Tryd.underlying122 Tryd.underlying33 hn hne v
  obtain ⟨w1, r1, m1, k1⟩ := put _ _ _ (mapi_new w0) 2 (i64_lit 2 rfl) (by simp) (.func (.func 69) #[] #[])
  obtain ⟨w2, r2, m2, k2⟩ := put _ _ _ m1 3 (i64_lit 3 rfl) (by simp) (.func (.func 70) #[] #[])
  obtain ⟨w4, r3, m3, k3⟩ := put _ _ _ m2 4 (i64_lit 4 rfl) (by simp) (.func (.func 71) #[] #[])
  have hE4 : Ext w0 w4 := ((Keeps.refl NoB w0).alloc _).then ((k1.trans k2).trans k3) fun i hi h => absurd (show i = w0.heap.size from h) (by omega)
  have hlk : (Instr.lookup 122 (.map (some w0.heap.size)) (.int .i64 kind) true).run Tryd.prog w4 = .ok (.tuple #[(lookI countD kind nofn).1, .bool (lookI countD kind nofn).2]) w4 :=
    MapI.look (D := countD) m3 Tryd.underlying122 Tryd.underlying33 zeroFn3 HI.out (by unfold countD; simp) true
  have B0 := Lib.hid (bx0.ext hE4)
  have B1 := Lib.hid (bx1.ext hE4)
  have HE := Lib.hid (ex.ext hE4)
  replace HT := Lib.hid (HT.out.ext HE.out)
  obtain ⟨v, hat⟩ := HT.out
  obtain ⟨s0, s1, s2⟩ := hat.st m HM.out
  have lt := hat.box.lt
  obtain ⟨s, hs⟩ : ∃ s, T.of m = s := ⟨_, rfl⟩
  rw [hs] at s0 s1 s2
  have HS := Lib.hid hs
  clear m1 m2 m3 k1 k2 k3 put hE4 bx0 bx1 ex hat hs
  rcases look_count kind nofn with ⟨h1, h2⟩ | ⟨h1, h2⟩ | ⟨h1, h2⟩ | ⟨h1, h2⟩
  · rw [h2] at hlk
    have H1 := Lib.hid h1
    clear h1 h2
    obtain ⟨cB0, zB0⟩ := B0.out.reads
    have lB0 := B0.out.lt
    obtain ⟨cB1, zB1⟩ := B1.out.reads
    have lB1 := B1.out.lt
    have n0 : ¬ OneB (w.heap.size + 1) w.heap.size := by unfold OneB; omega
    have n1 : ¬ OneB (w.heap.size + 1) b := by have := HLT.out; unfold OneB; omega
    have g1 : (m : Int) < 16 := by have := HM.out; omega
    have g2 : ¬ (m : Int) < 0 := by omega
    go_wp2_with fail
    have hE0 : Keeps (OneB (w.heap.size + 1)) w4 w4.drew := (Keeps.refl _ _).drew
    refine wp_region_plan [(0, 0), (0, 1), (0, 2), (0, 3), (3, 4), (0, 5), (0, 6), (0, 7), (3, 8), (3, 9), (2, 10), (0, 11), (0, 12)] [] [10, 13, 14] [13, 14] (ClsK (OneB (w.heap.size + 1)) w4) (by kernel_rfl) (by kernel_rfl) (by kernel_rfl) rfl rfl (ClsK.of hE0) (fun _ _ _ d _ h => by cases d <;> exact h) ?_; simp only [planL, nL]
    iterate 3 (refine pM _ rfl rfl ?_; simp only [nP, nE])
    refine pR (v := ?_) rfl (fun W => ?_) ?_; rotate_left; (go_simp <;> with_reducible rfl); simp only [nP]
    refine pX (v := ?_) rfl ?_ ?_; rotate_left; (go_simp <;> with_reducible rfl); simp only [nP]
    iterate 3 (refine pR (v := ?_) rfl (fun W => ?_) ?_; rotate_left; (go_simp <;> with_reducible rfl); simp only [nP])
    iterate 2 (refine pX (v := ?_) rfl ?_ ?_; rotate_left; (go_simp <;> with_reducible rfl); simp only [nP])
    refine plan_does rfl (fun K hK => ?_)
    go_wp2_with fail
    refine (joins_any _ b T s ⟨kind, m, number, text⟩ (HT.out.ext (Ext.drew0 _))).mono ?_
    rintro r w5 ⟨rfl, hE5⟩
    have hX5 : Ext w4 w5 := ((Keeps.refl NoB w4).drew).ext hE5
    have hK5 : Keeps (OneB (w.heap.size + 1)) w4 w5 := Ext.keeps hX5
    have B5 := Lib.hid (B1.out.ext hX5)
    have HX5 := Lib.hid hX5
    clear hE5 hX5
    clear cB0 zB0 lB0 cB1 zB1 lB1
    obtain ⟨cB5, zB5⟩ := B5.out.reads
    have lB5 := B5.out.lt
    unfold St.v
    refine hK _ _ ⟨ClsK.of (by assumption), ?_⟩; clear hK K; try simp only [nP]
    iterate 2 (refine pR (v := ?_) rfl (fun W => ?_) ?_; rotate_left; (go_simp <;> with_reducible rfl); simp only [nP])
    refine plan_nil ?_; simp only [tailL, List.filterMap_cons, List.filterMap_nil, nL]; change wpList _ _ _ (_ :: _ :: []) _ _
    go_wp2_with fail
    clear cB5 zB5 lB5
    have hcr : countsR T ⟨kind, m, number, text⟩ = (⟨true, (T.l.length : Int), s.last⟩, !s.inn) := by
      have h1 := H1.out
      have h2 := HS.out
      unfold countsR
      simp only [Int.toNat_natCast, h2]
      rw [if_pos h1]
    rw [hcr]
    have hs := Sx.out
    have q := ((B5.out.set 0 (.bool (true))).set 1 (.int .i64 ((T.l.length : Int)))).set 2 (.int .i64 (s.last))
    dsimp only [List.set_cons_zero, List.set_cons_succ] at q
    have q1 := q.reads.1
    refine bodyPost_ret (v := .tuple #[(⟨true, (T.l.length : Int), s.last⟩ : St).v, .bool (!s.inn)]) (by simp [results, Tryd.results56, go_sem, q1, St.v]) rfl ⟨rfl, ?_⟩
    exact (HE.out.ext HX5.out).then ((((Keeps.refl (OneB (w.heap.size + 1)) w5).setOne 0 _).setOne 1 _).setOne 2 _) (fun i hi h => by unfold OneB at h; omega)
  · rw [h2] at hlk
    have H1 := Lib.hid h1
    clear h1 h2
    obtain ⟨cB0, zB0⟩ := B0.out.reads
    have lB0 := B0.out.lt
    obtain ⟨cB1, zB1⟩ := B1.out.reads
    have lB1 := B1.out.lt
    have n0 : ¬ OneB (w.heap.size + 1) w.heap.size := by unfold OneB; omega
    have n1 : ¬ OneB (w.heap.size + 1) b := by have := HLT.out; unfold OneB; omega
    have g1 : (m : Int) < 16 := by have := HM.out; omega
    have g2 : ¬ (m : Int) < 0 := by omega
    go_wp2_with fail
    have hE0 : Keeps (OneB (w.heap.size + 1)) w4 w4.drew := (Keeps.refl _ _).drew
    refine wp_region_plan [(0, 0), (0, 1), (0, 2), (0, 3), (3, 4), (0, 5), (0, 6), (0, 7), (3, 8), (3, 9), (2, 10), (0, 11), (0, 12)] [] [10, 13, 14] [13, 14] (ClsK (OneB (w.heap.size + 1)) w4) (by kernel_rfl) (by kernel_rfl) (by kernel_rfl) rfl rfl (ClsK.of hE0) (fun _ _ _ d _ h => by cases d <;> exact h) ?_; simp only [planL, nL]
    iterate 3 (refine pM _ rfl rfl ?_; simp only [nP, nE])
    refine pR (v := ?_) rfl (fun W => ?_) ?_; rotate_left; (go_simp <;> with_reducible rfl); simp only [nP]
    refine pX (v := ?_) rfl ?_ ?_; rotate_left; (go_simp <;> with_reducible rfl); simp only [nP]
    iterate 3 (refine pR (v := ?_) rfl (fun W => ?_) ?_; rotate_left; (go_simp <;> with_reducible rfl); simp only [nP])
    iterate 2 (refine pX (v := ?_) rfl ?_ ?_; rotate_left; (go_simp <;> with_reducible rfl); simp only [nP])
    refine plan_does rfl (fun K hK => ?_)
    go_wp2_with fail
    refine (leaves_any _ s ⟨kind, m, number, text⟩).mono ?_
    rintro r w5 ⟨rfl, hE5⟩
    have hX5 : Ext w4 w5 := ((Keeps.refl NoB w4).drew).ext hE5
    have hK5 : Keeps (OneB (w.heap.size + 1)) w4 w5 := Ext.keeps hX5
    have B5 := Lib.hid (B1.out.ext hX5)
    have HX5 := Lib.hid hX5
    clear hE5 hX5
    clear cB0 zB0 lB0 cB1 zB1 lB1
    obtain ⟨cB5, zB5⟩ := B5.out.reads
    have lB5 := B5.out.lt
    unfold St.v
    refine hK _ _ ⟨ClsK.of (by assumption), ?_⟩; clear hK K; try simp only [nP]
    iterate 2 (refine pR (v := ?_) rfl (fun W => ?_) ?_; rotate_left; (go_simp <;> with_reducible rfl); simp only [nP])
    refine plan_nil ?_; simp only [tailL, List.filterMap_cons, List.filterMap_nil, nL]; change wpList _ _ _ (_ :: _ :: []) _ _
    go_wp2_with fail
    clear cB5 zB5 lB5
    have hcr : countsR T ⟨kind, m, number, text⟩ = (⟨false, s.joined, s.last⟩, s.inn) := by
      have h1 := H1.out
      have h2 := HS.out
      unfold countsR
      simp only [Int.toNat_natCast, h2]
      rw [if_neg h1.1, if_pos h1.2]
    rw [hcr]
    have hs := Sx.out
    have q := ((B5.out.set 0 (.bool (false))).set 1 (.int .i64 (s.joined))).set 2 (.int .i64 (s.last))
    dsimp only [List.set_cons_zero, List.set_cons_succ] at q
    have q1 := q.reads.1
    refine bodyPost_ret (v := .tuple #[(⟨false, s.joined, s.last⟩ : St).v, .bool (s.inn)]) (by simp [results, Tryd.results56, go_sem, q1, St.v]) rfl ⟨rfl, ?_⟩
    exact (HE.out.ext HX5.out).then ((((Keeps.refl (OneB (w.heap.size + 1)) w5).setOne 0 _).setOne 1 _).setOne 2 _) (fun i hi h => by unfold OneB at h; omega)
  · rw [h2] at hlk
    have H1 := Lib.hid h1
    clear h1 h2
    obtain ⟨cB0, zB0⟩ := B0.out.reads
    have lB0 := B0.out.lt
    obtain ⟨cB1, zB1⟩ := B1.out.reads
    have lB1 := B1.out.lt
    have n0 : ¬ OneB (w.heap.size + 1) w.heap.size := by unfold OneB; omega
    have n1 : ¬ OneB (w.heap.size + 1) b := by have := HLT.out; unfold OneB; omega
    have g1 : (m : Int) < 16 := by have := HM.out; omega
    have g2 : ¬ (m : Int) < 0 := by omega
    go_wp2_with fail
    have hE0 : Keeps (OneB (w.heap.size + 1)) w4 w4.drew := (Keeps.refl _ _).drew
    refine wp_region_plan [(0, 0), (0, 1), (0, 2), (0, 3), (3, 4), (0, 5), (0, 6), (0, 7), (3, 8), (3, 9), (2, 10), (0, 11), (0, 12)] [] [10, 13, 14] [13, 14] (ClsK (OneB (w.heap.size + 1)) w4) (by kernel_rfl) (by kernel_rfl) (by kernel_rfl) rfl rfl (ClsK.of hE0) (fun _ _ _ d _ h => by cases d <;> exact h) ?_; simp only [planL, nL]
    iterate 3 (refine pM _ rfl rfl ?_; simp only [nP, nE])
    refine pR (v := ?_) rfl (fun W => ?_) ?_; rotate_left; (go_simp <;> with_reducible rfl); simp only [nP]
    refine pX (v := ?_) rfl ?_ ?_; rotate_left; (go_simp <;> with_reducible rfl); simp only [nP]
    iterate 3 (refine pR (v := ?_) rfl (fun W => ?_) ?_; rotate_left; (go_simp <;> with_reducible rfl); simp only [nP])
    iterate 2 (refine pX (v := ?_) rfl ?_ ?_; rotate_left; (go_simp <;> with_reducible rfl); simp only [nP])
    refine plan_does rfl (fun K hK => ?_)
    go_wp2_with fail
    refine (says_any _ s ⟨kind, m, number, text⟩).mono ?_
    rintro r w5 ⟨rfl, hE5⟩
    have hX5 : Ext w4 w5 := ((Keeps.refl NoB w4).drew).ext hE5
    have hK5 : Keeps (OneB (w.heap.size + 1)) w4 w5 := Ext.keeps hX5
    have B5 := Lib.hid (B1.out.ext hX5)
    have HX5 := Lib.hid hX5
    clear hE5 hX5
    clear cB0 zB0 lB0 cB1 zB1 lB1
    obtain ⟨cB5, zB5⟩ := B5.out.reads
    have lB5 := B5.out.lt
    unfold St.v
    refine hK _ _ ⟨ClsK.of (by assumption), ?_⟩; clear hK K; try simp only [nP]
    iterate 2 (refine pR (v := ?_) rfl (fun W => ?_) ?_; rotate_left; (go_simp <;> with_reducible rfl); simp only [nP])
    refine plan_nil ?_; simp only [tailL, List.filterMap_cons, List.filterMap_nil, nL]; change wpList _ _ _ (_ :: _ :: []) _ _
    go_wp2_with fail
    clear cB5 zB5 lB5
    have hcr : countsR T ⟨kind, m, number, text⟩ = (⟨s.inn, s.joined, number⟩, saysB s ⟨kind, m, number, text⟩) := by
      have h1 := H1.out
      have h2 := HS.out
      unfold countsR
      simp only [Int.toNat_natCast, h2]
      rw [if_neg h1.1, if_neg h1.2.1, if_pos h1.2.2]
    rw [hcr]
    have hs := Sx.out
    have q := ((B5.out.set 0 (.bool (s.inn))).set 1 (.int .i64 (s.joined))).set 2 (.int .i64 (number))
    dsimp only [List.set_cons_zero, List.set_cons_succ] at q
    have q1 := q.reads.1
    refine bodyPost_ret (v := .tuple #[(⟨s.inn, s.joined, number⟩ : St).v, .bool (saysB s ⟨kind, m, number, text⟩)]) (by simp [results, Tryd.results56, go_sem, q1, St.v]) rfl ⟨rfl, ?_⟩
    exact (HE.out.ext HX5.out).then ((((Keeps.refl (OneB (w.heap.size + 1)) w5).setOne 0 _).setOne 1 _).setOne 2 _) (fun i hi h => by unfold OneB at h; omega)
  · rw [h2] at hlk
    have H1 := Lib.hid h1
    clear h1 h2
    obtain ⟨cB0, zB0⟩ := B0.out.reads
    have lB0 := B0.out.lt
    obtain ⟨cB1, zB1⟩ := B1.out.reads
    have lB1 := B1.out.lt
    go_wp2_with fail
    clear cB0 zB0 lB0 cB1 zB1 lB1
    have hcr : countsR T ⟨kind, m, number, text⟩ = (⟨false, 0, 0⟩, false) := by
      have h1 := H1.out
      unfold countsR
      rw [if_neg h1.1, if_neg h1.2.1, if_neg h1.2.2]
    rw [hcr]
    have hs := Sx.out
    have q := ((B1.out.set 0 (.bool false)).set 1 (.int .i64 0)).set 2 (.int .i64 0)
    dsimp only [List.set_cons_zero, List.set_cons_succ] at q
    have q1 := q.reads.1
    refine bodyPost_ret (v := .tuple #[(⟨false, 0, 0⟩ : St).v, .bool false]) (by simp [results, Tryd.results56, go_sem, q1, St.v]) rfl ⟨rfl, ?_⟩
    exact HE.out.then ((((Keeps.refl (OneB (w.heap.size + 1)) w4).setOne 0 _).setOne 1 _).setOne 2 _) (fun i hi h => by unfold OneB at h; omega)
end Go.Proofs.YthhdgjofagdjeaaDoor
end
section
/- Whether an entry would count. Condition: the talk lies as 'TalkAt' says; of an entry that says something, that text.Check answers as the document's. -/
set_option linter.unusedVariables false
set_option linter.unusedSimpArgs false
set_option maxHeartbeats 1000000
set_option maxRecDepth 10000
namespace Go.Proofs.YthhdgjofagdjeaaDoor
open Go.RowKit

theorem enB_mem {e : En} (h : enB e = true) : ∃ m : Nat, e.member = m ∧ m < 16 := by
  have key : ∀ z : Int, memB z = true → ∃ m : Nat, z = m ∧ m < 16 := by
    intro z hz
    unfold memB at hz
    rw [Bool.and_eq_true, decide_eq_true_eq, decide_eq_true_eq] at hz
    exact ⟨z.toNat, by omega, by omega⟩
  unfold enB at h
  split at h
  · unfold noneB at h
    have h1 := of_decide_eq_true h
    refine ⟨0, ?_, by decide⟩
    rw [h1]; rfl
  · split at h
    · rw [Bool.and_eq_true] at h
      exact key _ h.1
    · split at h
      · unfold sayB at h
        simp only [Bool.and_eq_true] at h
        exact key _ h.1.1.1
      · cases h
theorem would_any {F : Nat → Prop} (w : World) (b : Nat) (T : TA) (e : En) (h : TalkX w F b T) (hI : I64 e.kind)
    (hC : e.kind = 4 → ∀ w1, Ext w w1 → Calls Tryd.prog 65 #[.string (bs e.text)] w1 fun r w' => r = .returned (.int .i64 (chk e.text : Int)) ∧ Ext w1 w') :
    Calls Tryd.prog 49 #[.pointer (some ⟨b, 0, none⟩), e.v] w fun r w' => r = .returned (.bool (enB e && (countsR T e).2)) ∧ Ext w w' := by
  have HT := Lib.hid h
  have HI := Lib.hid hI
  have HC := Lib.hid hC
  clear h hI hC
  obtain ⟨kind, member, number, text⟩ := e
  unfold En.v
  go_enter Tryd.func49, Tryd.ntmps49
  go_wp2_with fail
  have bx0 := (Box.new w 35 [.int .i64 kind, .int .i64 member, .int .i64 number, .string (bs text)])
  have ex : Ext w (w.alloc (Obj.cells #[.int .i64 kind, .int .i64 member, .int .i64 number, .string (bs text)] 35)) := ((Keeps.refl NoB w).alloc _)
  have sx : (w.alloc (Obj.cells #[.int .i64 kind, .int .i64 member, .int .i64 number, .string (bs text)] 35)).heap.size = w.heap.size + 1 := by simp
  generalize (w.alloc (Obj.cells #[.int .i64 kind, .int .i64 member, .int .i64 number, .string (bs text)] 35)) = w0 at bx0 ex sx ⊢
  have Sx := Lib.hid sx
  clear sx
  have B0 := Lib.hid bx0
  have HE := Lib.hid ex
  replace HT := Lib.hid (HT.out.ext ex)
  clear bx0 ex
  refine (talk_none w0 b T HT.out).mono ?_
  rintro r w' ⟨rfl, rfl⟩
  obtain ⟨cB0, zB0⟩ := B0.out.reads
  have lB0 := B0.out.lt
  go_wp2_with fail
  refine (right_any w' ⟨kind, member, number, text⟩ HI.out (fun hk W hW => HC.out hk W (HE.out.ext hW))).mono ?_
  rintro r w2 ⟨rfl, hE2⟩
  clear cB0 zB0 lB0
  replace HT := Lib.hid (HT.out.ext hE2)
  replace HE := Lib.hid (HE.out.ext hE2)
  replace B0 := Lib.hid (B0.out.ext hE2)
  clear hE2
  cases hb : enB ⟨kind, member, number, text⟩ with
  | false =>
    go_wp2_with fail
    go_ret
    exact ⟨by rw [hb]; simp, HE.out⟩
  | true =>
    obtain ⟨m, hm, h16⟩ := enB_mem hb
    dsimp only at hm
    subst hm
    have HBB := Lib.hid hb
    clear hb
    obtain ⟨cB0, zB0⟩ := B0.out.reads
    have lB0 := B0.out.lt
    go_wp2_with fail
    clear cB0 zB0 lB0
    refine (counts_any _ b T kind m number text HT.out h16 HI.out).mono ?_
    rintro r w3 ⟨rfl, hE3⟩
    obtain ⟨⟨i0, j0, l0⟩, is, hcr⟩ : ∃ s is, countsR T ⟨kind, (m : Int), number, text⟩ = (s, is) := ⟨_, _, rfl⟩
    rw [hcr]
    have HCR := Lib.hid hcr
    replace HE := Lib.hid (HE.out.ext hE3)
    clear hE3 hcr
    unfold St.v
    go_wp2_with fail
    go_ret
    exact ⟨by rw [HBB.out, HCR.out]; simp, HE.out.alloc _⟩
end Go.Proofs.YthhdgjofagdjeaaDoor
end
section
/- A talk takes an entry that counts. Condition: the talk lies as 'TalkAt' says; of an entry that says something, that text.Check answers as the document's. -/
set_option linter.unusedVariables false
set_option linter.unusedSimpArgs false
set_option maxHeartbeats 6000000
set_option maxRecDepth 10000
namespace Go.Proofs.YthhdgjofagdjeaaDoor
open Go.RowKit

theorem stsC_set : ∀ (l : List St) (m : Nat) (s : St), m < l.length → (((stsC l).set (m * 3) (.bool s.inn)).set (m * 3 + 1) (.int .i64 s.joined)).set (m * 3 + 2) (.int .i64 s.last) = stsC (l.set m s)
  | [], m, s, h => by simp at h
  | x :: l, 0, s, h => by simp [stsC, St.cells]
  | x :: l, m + 1, s, h => by
    have ih := stsC_set l m s (by simpa using h)
    have e : ∀ j, (m + 1) * 3 + j = (m * 3 + j) + 1 + 1 + 1 := fun j => by omega
    have e0 : (m + 1) * 3 = (m * 3) + 1 + 1 + 1 := by omega
    have hc : stsC (x :: l) = .bool x.inn :: .int .i64 x.joined :: .int .i64 x.last :: stsC l := by simp [stsC, St.cells]
    have hc2 : stsC ((x :: l).set (m + 1) s) = .bool x.inn :: .int .i64 x.joined :: .int .i64 x.last :: stsC (l.set m s) := by simp [stsC, St.cells]
    rw [hc, hc2, e0]
    rw [show (m * 3 + 1 + 1 + 1 + 1) = (m * 3 + 1) + 1 + 1 + 1 by omega, show (m * 3 + 1 + 1 + 1 + 2) = (m * 3 + 2) + 1 + 1 + 1 by omega]
    simp only [List.set_cons_succ]
    rw [ih]
section
variable {w w' : World} {F F' S : Nat → Prop} {b : Nat} {v : Value} {T : TA}
theorem TalkAt.putSlot (h : TalkAt w F b v T) (n : Int) : TalkAt (w.setCell ⟨b, 1, none⟩ (.int .i64 n)) F b v { T with slot := n } := by
  have hk : Keeps (OneB b) w (w.setCell ⟨b, 1, none⟩ (.int .i64 n)) := (Keeps.refl _ _).setOne 1 _
  exact ⟨h.box.set 1 _, h.win.keeps hk (fun g hg h9 => (h.fv g hg).2 h9), h.fb, h.fv, fun k hF => Nat.lt_of_lt_of_le (h.lt k hF) hk.size, h.sts⟩
theorem TalkAt.putSt (h : TalkAt w F b v T) (m : Nat) (hm : m < 16) (s : St) :
    TalkAt (((w.setCell ⟨b, 2 + m * 3, none⟩ (.bool s.inn)).setCell ⟨b, 2 + m * 3 + 1, none⟩ (.int .i64 s.joined)).setCell ⟨b, 2 + m * 3 + 2, none⟩ (.int .i64 s.last)) F b v { T with st := T.st.set m s } := by
  have hk : Keeps (OneB b) w (((w.setCell ⟨b, 2 + m * 3, none⟩ (.bool s.inn)).setCell ⟨b, 2 + m * 3 + 1, none⟩ (.int .i64 s.joined)).setCell ⟨b, 2 + m * 3 + 2, none⟩ (.int .i64 s.last)) := (((Keeps.refl _ _).setOne _ _).setOne _ _).setOne _ _
  have hl := stsC_len T.st
  have hs := h.sts
  have hb := ((h.box.set (2 + m * 3) (.bool s.inn)).set (2 + m * 3 + 1) (.int .i64 s.joined)).set (2 + m * 3 + 2) (.int .i64 s.last)
  have e : ((((T.cells v).set (2 + m * 3) (.bool s.inn)).set (2 + m * 3 + 1) (.int .i64 s.joined)).set (2 + m * 3 + 2) (.int .i64 s.last)) = ({ T with st := T.st.set m s } : TA).cells v := by
    unfold TA.cells
    rw [show 2 + m * 3 = (m * 3) + 1 + 1 by omega, show m * 3 + 1 + 1 + 1 = (m * 3 + 1) + 1 + 1 by omega, show m * 3 + 1 + 1 + 2 = (m * 3 + 2) + 1 + 1 by omega]
    simp only [List.set_cons_succ]
    rw [List.set_append_left _ _ (by omega), List.set_append_left _ _ (by rw [List.length_set]; omega), List.set_append_left _ _ (by rw [List.length_set, List.length_set]; omega), stsC_set _ _ _ (by omega)]
  rw [e] at hb
  exact ⟨hb, h.win.keeps hk (fun g hg h9 => (h.fv g hg).2 h9), h.fb, h.fv, fun k hF => Nat.lt_of_lt_of_le (h.lt k hF) hk.size, by simpa using h.sts⟩
end
def TA.put (T : TA) (e : En) : TA := { l := T.l ++ [⟨(T.l.length : Int), T.slot, e⟩], slot := T.slot + 1, st := T.st.set e.member.toNat (countsR T e).1 }
theorem apply_ok {F : Nat → Prop} (w : World) (b : Nat) (T : TA) (e : En) (h : TalkX w F b T) (hI : I64 e.kind) (he : enB e = true) (hc : (countsR T e).2 = true) (h0 : 0 ≤ T.slot) (h4 : T.slot < 4096) (hl : T.l.length ≤ 4096)
    (hC : e.kind = 4 → ∀ w1, Ext w w1 → Calls Tryd.prog 65 #[.string (bs e.text)] w1 fun r w' => r = .returned (.int .i64 (chk e.text : Int)) ∧ Ext w1 w') :
    Calls Tryd.prog 35 #[.pointer (some ⟨b, 0, none⟩), .int .i64 T.slot, e.v] w fun r w' => ∃ F', r = .returned (.tuple #[(⟨(T.l.length : Int), T.slot, e⟩ : Ln).v, .bool true, .int .i64 0]) ∧ TalkX w' F' b (T.put e) ∧ Keeps F w w' ∧ ∀ k, F' k → F k ∨ w.heap.size ≤ k := by
  have HT := Lib.hid h
  have HI := Lib.hid hI
  have HC := Lib.hid hC
  have HN := Lib.hid he
  have HCT := Lib.hid hc
  have HL := Lib.hid hl
  have H0 := Lib.hid h0
  have g1 : ¬ 4096 ≤ T.slot := by omega
  obtain ⟨kind, member, number, text⟩ := e
  obtain ⟨m, hm, h16⟩ := enB_mem he
  dsimp only at hm
  subst hm
  have HM := Lib.hid h16
  clear h hI hC he hc h0 h4 hl h16
  unfold En.v
  go_enter Tryd.func35, Tryd.ntmps35
  go_wp2_with fail
  have bx0 := ((Box.new w 35 [.int .i64 kind, .int .i64 (m : Int), .int .i64 number, .string (bs text)]).alloc (Obj.cells #[.int .i64 0, .int .i64 0, .int .i64 0, .int .i64 0, .int .i64 0, .string ⟨#[]⟩] 58))
  have bx1 := (Box.new (w.alloc (Obj.cells #[.int .i64 kind, .int .i64 (m : Int), .int .i64 number, .string (bs text)] 35)) 58 [.int .i64 0, .int .i64 0, .int .i64 0, .int .i64 0, .int .i64 0, .string ⟨#[]⟩])
  have ex : Ext w ((w.alloc (Obj.cells #[.int .i64 kind, .int .i64 (m : Int), .int .i64 number, .string (bs text)] 35)).alloc (Obj.cells #[.int .i64 0, .int .i64 0, .int .i64 0, .int .i64 0, .int .i64 0, .string ⟨#[]⟩] 58)) := (((Keeps.refl NoB w).alloc _).alloc _)
  have sx : ((w.alloc (Obj.cells #[.int .i64 kind, .int .i64 (m : Int), .int .i64 number, .string (bs text)] 35)).alloc (Obj.cells #[.int .i64 0, .int .i64 0, .int .i64 0, .int .i64 0, .int .i64 0, .string ⟨#[]⟩] 58)).heap.size = w.heap.size + 2 := by simp
  simp only [World.size_alloc] at bx1
  generalize ((w.alloc (Obj.cells #[.int .i64 kind, .int .i64 (m : Int), .int .i64 number, .string (bs text)] 35)).alloc (Obj.cells #[.int .i64 0, .int .i64 0, .int .i64 0, .int .i64 0, .int .i64 0, .string ⟨#[]⟩] 58)) = w0 at bx0 bx1 ex sx ⊢
  have Sx := Lib.hid sx
  clear sx
  have B0 := Lib.hid bx0
  have B1 := Lib.hid bx1
  have HE := Lib.hid ex
  have HLT := Lib.hid (show ∀ k, F k → k < w.heap.size from let ⟨_, h⟩ := HT.out; h.lt)
  replace HT := Lib.hid (HT.out.ext ex)
  clear bx0 bx1 ex
  refine (talk_none w0 b T HT.out).mono ?_
  rintro r w' ⟨rfl, rfl⟩
  obtain ⟨cB0, zB0⟩ := B0.out.reads
  have lB0 := B0.out.lt
  go_wp2_with fail
  refine (right_any w' ⟨kind, m, number, text⟩ HI.out (fun hk W hW => HC.out hk W (HE.out.ext hW))).mono ?_
  rintro r w2 ⟨rfl, hE2⟩
  clear cB0 zB0 lB0
  rw [HN.out]
  replace HT := Lib.hid (HT.out.ext hE2)
  replace HE := Lib.hid (HE.out.ext hE2)
  replace B0 := Lib.hid (B0.out.ext hE2)
  replace B1 := Lib.hid (B1.out.ext hE2)
  have HZ : Hid (w.heap.size + 2 ≤ w2.heap.size) := Lib.hid (by have := hE2.size; have := Sx.out; omega)
  clear hE2
  obtain ⟨v, hat⟩ := HT.out
  obtain ⟨c0, c1, c50, lt⟩ := hat.see
  have z1 := hat.box.reads.2 1
  have hu := hat.putSlot (wrap64 (T.slot + 1))
  have HAT := Lib.hid hu
  have hbF := HLT.out b hat.fb
  have HFB := Lib.hid hat.fb
  clear hat hu c0 c50
  have e1 : ¬ w.heap.size = b := by omega
  have e2 : ¬ b = w.heap.size := by omega
  obtain ⟨cB0, zB0⟩ := B0.out.reads
  have lB0 := B0.out.lt
  go_wp2_with fail
  clear cB0 zB0 lB0
  have hk : Keeps (OneB b) w2 (w2.setCell ⟨b, 1, none⟩ (.int .i64 (wrap64 (T.slot + 1)))) := (Keeps.refl _ _).setOne 1 _
  generalize w2.setCell ⟨b, 1, none⟩ (.int .i64 (wrap64 (T.slot + 1))) = w3 at hk HAT ⊢
  have e3 : ¬ w.heap.size + 1 = b := by omega
  replace B0 := Lib.hid (B0.out.keeps hk (show ¬ OneB b _ from e1))
  replace B1 := Lib.hid (B1.out.keeps hk (show ¬ OneB b _ from e3))
  have HK : Hid (Keeps F w w3) := Lib.hid ((Ext.keeps HE.out).then hk (fun i hi h => by obtain rfl : i = b := h; exact HFB.out))
  replace HZ : Hid (w.heap.size + 2 ≤ w3.heap.size) := Lib.hid (by have := hk.size; have := HZ.out; omega)
  clear hk c1 lt z1 HT
  refine (counts_any w3 b _ kind m number text ⟨v, HAT.out⟩ HM.out HI.out).mono ?_
  rintro r w4 ⟨rfl, hE4⟩
  have hceq : countsR { T with slot := wrap64 (T.slot + 1) } ⟨kind, (m : Int), number, text⟩ = countsR T ⟨kind, (m : Int), number, text⟩ := rfl
  rw [hceq]
  obtain ⟨⟨i0, j0, l0⟩, is, hcr⟩ : ∃ s is, countsR T ⟨kind, (m : Int), number, text⟩ = (s, is) := ⟨_, _, rfl⟩
  obtain rfl : is = true := by have := HCT.out; rw [hcr] at this; exact this
  rw [hcr]
  have HCR := Lib.hid hcr
  replace HAT := Lib.hid (HAT.out.keeps hE4 fun _ _ => noB _)
  replace B0 := Lib.hid (B0.out.ext hE4)
  replace B1 := Lib.hid (B1.out.ext hE4)
  replace HK := Lib.hid (HK.out.ext hE4)
  replace HZ : Hid (w.heap.size + 2 ≤ w4.heap.size) := Lib.hid (by have := hE4.size; have := HZ.out; omega)
  clear hE4 hcr hceq
  unfold St.v
  go_wp2_with fail
  have by0 := (Box.new w4 90 [.bool i0, .int .i64 j0, .int .i64 l0])
  have ey : Ext w4 (w4.alloc (Obj.cells #[.bool i0, .int .i64 j0, .int .i64 l0] 90)) := ((Keeps.refl NoB w4).alloc _)
  have sy : (w4.alloc (Obj.cells #[.bool i0, .int .i64 j0, .int .i64 l0] 90)).heap.size = w4.heap.size + 1 := by simp
  generalize (w4.alloc (Obj.cells #[.bool i0, .int .i64 j0, .int .i64 l0] 90)) = w5 at by0 ey sy ⊢
  have Sy := Lib.hid sy
  clear sy
  have BS := Lib.hid by0
  replace HAT := Lib.hid (HAT.out.keeps ey fun _ _ => noB _)
  replace B0 := Lib.hid (B0.out.ext ey)
  replace B1 := Lib.hid (B1.out.ext ey)
  replace HK := Lib.hid (HK.out.ext ey)
  have h45 := HK.out.size
  clear by0 ey
  obtain ⟨p0, q0, rfl⟩ := HAT.out.len
  obtain ⟨c0, c1, c50, lt⟩ := HAT.out.see
  have n0 : ¬ OneB (w.heap.size + 1) w.heap.size := by unfold OneB; omega
  have n1 : ¬ OneB (w.heap.size + 1) b := fun h => e3 (Eq.symm h)
  clear c1 c50
  obtain ⟨cB0, zB0⟩ := B0.out.reads
  have lB0 := B0.out.lt
  obtain ⟨cB1, zB1⟩ := B1.out.reads
  have lB1 := B1.out.lt
  have hE0 : Keeps (OneB (w.heap.size + 1)) w5 w5.drew := (Keeps.refl _ _).drew
  refine wp_region_plan [(0, 0), (0, 1), (0, 2), (3, 3), (0, 4), (0, 5), (3, 6), (0, 7)] [] [8] [8] (ClsK (OneB (w.heap.size + 1)) w5) (by kernel_rfl) (by kernel_rfl) (by kernel_rfl) rfl rfl (ClsK.of hE0) (fun _ _ _ d _ h => by cases d <;> exact h) ?_; simp only [planL, nL]
  refine pM _ rfl rfl ?_; simp only [nP, nE]
  iterate 2 (refine pR (v := ?_) rfl (fun W => ?_) ?_; rotate_left; (go_simp <;> with_reducible rfl); simp only [nP])
  refine pX (v := ?_) rfl ?_ ?_; rotate_left; (go_simp <;> with_reducible rfl); simp only [nP]
  refine pR (v := ?_) rfl (fun W => ?_) ?_; rotate_left; (go_simp <;> with_reducible rfl); simp only [nP]
  refine pM _ rfl rfl ?_; simp only [nP, nE]
  refine pX (v := ?_) rfl ?_ ?_; rotate_left; (go_simp <;> with_reducible rfl); simp only [nP]
  refine pR (v := ?_) rfl (fun W => ?_) ?_; rotate_left; (go_simp <;> with_reducible rfl); simp only [nP]
  refine plan_nil ?_; simp only [tailL, List.filterMap_cons, List.filterMap_nil, nL]; change wpList _ _ _ (_ :: []) _ _
  go_wp2_with fail
  clear cB0 zB0 lB0 cB1 zB1 lB1
  have hk6 : Keeps (OneB (w.heap.size + 1)) w5 ((((((w5.setCell ⟨w.heap.size + 1, 0, none⟩ (.int .i64 (T.l.length : Int))).setCell ⟨w.heap.size + 1, 1, none⟩ (.int .i64 T.slot)).setCell ⟨w.heap.size + 1, 2, none⟩ (.int .i64 kind)).setCell ⟨w.heap.size + 1, 3, none⟩ (.int .i64 (m : Int))).setCell ⟨w.heap.size + 1, 4, none⟩ (.int .i64 number)).setCell ⟨w.heap.size + 1, 5, none⟩ (.string (bs text))).drew := (((((((Keeps.refl (OneB (w.heap.size + 1)) w5).setOne 0 (.int .i64 (T.l.length : Int))).setOne 1 (.int .i64 T.slot)).setOne 2 (.int .i64 kind)).setOne 3 (.int .i64 (m : Int))).setOne 4 (.int .i64 number)).setOne 5 (.string (bs text))).drew
  have hb6 := ((((((B1.out.set 0 (.int .i64 (T.l.length : Int))).set 1 (.int .i64 T.slot)).set 2 (.int .i64 kind)).set 3 (.int .i64 (m : Int))).set 4 (.int .i64 number)).set 5 (.string (bs text))).drew
  dsimp only [List.set_cons_zero, List.set_cons_succ] at hb6
  generalize ((((((w5.setCell ⟨w.heap.size + 1, 0, none⟩ (.int .i64 (T.l.length : Int))).setCell ⟨w.heap.size + 1, 1, none⟩ (.int .i64 T.slot)).setCell ⟨w.heap.size + 1, 2, none⟩ (.int .i64 kind)).setCell ⟨w.heap.size + 1, 3, none⟩ (.int .i64 (m : Int))).setCell ⟨w.heap.size + 1, 4, none⟩ (.int .i64 number)).setCell ⟨w.heap.size + 1, 5, none⟩ (.string (bs text))).drew = w6 at hk6 hb6 ⊢
  have hs4 := Sy.out
  have HN4 := HZ
  replace B1 := Lib.hid hb6
  replace B0 := Lib.hid (B0.out.keeps hk6 n0)
  replace BS := Lib.hid (BS.out.keeps hk6 (show ¬ OneB (w.heap.size + 1) _ by unfold OneB; have := HN4.out; omega))
  replace HAT := Lib.hid (HAT.out.keeps hk6 (fun k hF h => by have h1 := HLT.out k hF; have h2 : k = w.heap.size + 1 := h; omega))
  replace HK : Hid (Keeps F w w6) := Lib.hid (HK.out.then hk6 (fun i hi h => by have h2 : i = w.heap.size + 1 := h; omega))
  have hup := HAT.out.putSt m HM.out ⟨i0, j0, l0⟩
  have HUP := Lib.hid hup
  obtain ⟨s0, s1, s2⟩ := HAT.out.st m HM.out
  have zz := HAT.out.box.reads.2
  have lt6 := HAT.out.box.lt
  have f0 : ¬ OneB b w.heap.size := e1
  have f1 : ¬ OneB b w4.heap.size := by have := HN4.out; unfold OneB; omega
  have g3 : (m : Int) < 16 := by have := HM.out; omega
  have g4 : ¬ (m : Int) < 0 := by omega
  clear hk6 hb6 hup n0 n1 c0 lt hs4
  obtain ⟨cB0, zB0⟩ := B0.out.reads
  have lB0 := B0.out.lt
  obtain ⟨cBS, zBS⟩ := BS.out.reads
  have lBS := BS.out.lt
  have hE0 : Keeps (OneB b) w6 w6.drew := (Keeps.refl _ _).drew
  refine wp_region_plan [(0, 0), (0, 1), (3, 2), (3, 3), (0, 4), (0, 5), (0, 6)] [] [7] [7] (ClsK (OneB b) w6) (by kernel_rfl) (by kernel_rfl) (by kernel_rfl) rfl rfl (ClsK.of hE0) (fun _ _ _ d _ h => by cases d <;> exact h) ?_; simp only [planL, nL]
  refine pM _ rfl rfl ?_; simp only [nP, nE]
  refine pR (v := ?_) rfl (fun W => ?_) ?_; rotate_left; (go_simp <;> with_reducible rfl); simp only [nP]
  iterate 2 (refine pX (v := ?_) rfl ?_ ?_; rotate_left; (go_simp <;> with_reducible rfl); simp only [nP])
  iterate 3 (refine pR (v := ?_) rfl (fun W => ?_) ?_; rotate_left; (go_simp <;> with_reducible rfl); simp only [nP])
  refine plan_nil ?_; simp only [tailL, List.filterMap_cons, List.filterMap_nil, nL]; change wpList _ _ _ (_ :: []) _ _
  go_wp2_with fail
  clear cB0 zB0 lB0 cBS zBS lBS
  have hk7 : Keeps (OneB b) w6 (((w6.setCell ⟨b, 2 + m * 3, none⟩ (.bool i0)).setCell ⟨b, 2 + m * 3 + 1, none⟩ (.int .i64 j0)).setCell ⟨b, 2 + m * 3 + 2, none⟩ (.int .i64 l0)).drew := ((((Keeps.refl (OneB b) w6).setOne (2 + m * 3) (.bool i0)).setOne (2 + m * 3 + 1) (.int .i64 j0)).setOne (2 + m * 3 + 2) (.int .i64 l0)).drew
  have hu7 := HUP.out.keeps (w' := (((w6.setCell ⟨b, 2 + m * 3, none⟩ (.bool i0)).setCell ⟨b, 2 + m * 3 + 1, none⟩ (.int .i64 j0)).setCell ⟨b, 2 + m * 3 + 2, none⟩ (.int .i64 l0)).drew) (S := NoB) ((Keeps.refl _ _).drew) (fun _ _ => noB _)
  generalize (((w6.setCell ⟨b, 2 + m * 3, none⟩ (.bool i0)).setCell ⟨b, 2 + m * 3 + 1, none⟩ (.int .i64 j0)).setCell ⟨b, 2 + m * 3 + 2, none⟩ (.int .i64 l0)).drew = w7 at hk7 hu7 ⊢
  replace B1 := Lib.hid (B1.out.keeps hk7 (show ¬ OneB b _ from e3))
  replace HK : Hid (Keeps F w w7) := Lib.hid (HK.out.then hk7 (fun i hi h => by obtain rfl : i = b := h; exact HFB.out))
  replace HAT := Lib.hid hu7
  have H17 : Hid (w.heap.size + 1 < w7.heap.size) := Lib.hid B1.out.lt
  clear hk7 hu7 s0 s1 s2 zz lt6 f0 f1 HUP
  have hbo : ¬ Own (.slice p0 T.l.length q0) b := fun h => (HAT.out.fv b h).2 rfl
  have hlo : ¬ Own (.slice p0 T.l.length q0) (w.heap.size + 1) := fun h => by have := HLT.out _ (HAT.out.fv _ h).1; omega
  obtain ⟨c0, c1, c50, lt⟩ := HAT.out.see
  have zz := HAT.out.box.reads.2
  clear c1 c50
  obtain ⟨cB1, zB1⟩ := B1.out.reads
  have lB1 := B1.out.lt
  have hE0 : Keeps (Own (.slice p0 T.l.length q0)) w7 w7.drew := (Keeps.refl _ _).drew
  refine wp_region_plan [(0, 0), (0, 1), (0, 2), (0, 3), (1, 4), (3, 5), (2, 6)] [4] [6, 7, 8, 9, 10] [7, 8, 9, 10] (ClsK (Own (.slice p0 T.l.length q0)) w7) (by kernel_rfl) (by kernel_rfl) (by kernel_rfl) rfl rfl (ClsK.of hE0) (fun _ _ _ d _ h => by cases d <;> exact h) ?_; simp only [planL, nL]
  iterate 2 (refine pM _ rfl rfl ?_; simp only [nP, nE])
  iterate 2 (refine pR (v := ?_) rfl (fun W => ?_) ?_; rotate_left; (go_simp <;> with_reducible rfl); simp only [nP])
  refine pK (v := ?_) rfl (fun W => ?_) ?_; rotate_left; (go_simp <;> with_reducible rfl); simp only [nP]
  refine pX (v := ?_) rfl ?_ ?_; rotate_left; (go_simp <;> with_reducible rfl); simp only [nP]
  refine plan_does rfl (fun K hK => ?_)
  go_wp2_with fail
  refine ⟨ClsK.of (by repeat (first | assumption | exact Keeps.refl _ _ | refine Keeps.alloc ?_ _ | refine Keeps.setOne ?_ _ _ | refine Keeps.setCell ?_ _ _ (.inl (by first | rfl | exact .inl rfl | exact .inr rfl | omega)) | refine Keeps.drew ?_)), ?_⟩; try simp only [nP]
  refine plan_nil ?_; simp only [tailL, List.filterMap_cons, List.filterMap_nil, nL]; change wpList _ _ _ (_ :: _ :: _ :: _ :: []) _ _
  clear cB1 zB1 lB1
  go_wp2_with (at_builtin; refine standing ?_)
  have bz0 := (Box.new w7 58 [.int .i64 (T.l.length : Int), .int .i64 T.slot, .int .i64 kind, .int .i64 (m : Int), .int .i64 number, .string (bs text)])
  have ez : Ext w7 (w7.alloc (Obj.cells #[.int .i64 (T.l.length : Int), .int .i64 T.slot, .int .i64 kind, .int .i64 (m : Int), .int .i64 number, .string (bs text)] 58)) := ((Keeps.refl NoB w7).alloc _)
  have sz : (w7.alloc (Obj.cells #[.int .i64 (T.l.length : Int), .int .i64 T.slot, .int .i64 kind, .int .i64 (m : Int), .int .i64 number, .string (bs text)] 58)).heap.size = w7.heap.size + 1 := by simp
  generalize (w7.alloc (Obj.cells #[.int .i64 (T.l.length : Int), .int .i64 T.slot, .int .i64 kind, .int .i64 (m : Int), .int .i64 number, .string (bs text)] 58)) = w8 at bz0 ez sz ⊢
  have Sz := Lib.hid sz
  clear sz
  have e78 : Ext w7 w8.drew := ez.drew
  have hll := HL.out
  have hat8 := HAT.out.keeps e78 (fun _ _ => noB _)
  obtain ⟨v9, w9, hr9, hwin9, hk9, ho9⟩ := append_lines w8.drew 0 (.slice p0 T.l.length q0) T.l 88 hat8.win (.slice (some ⟨w7.heap.size, 0, none⟩) 1 1) [⟨(T.l.length : Int), T.slot, ⟨kind, m, number, text⟩⟩] (Box.src bz0.drew 1 1) (by simp; omega) (Nat.zero_le _)
  rw [show (T.l ++ [(⟨(T.l.length : Int), T.slot, ⟨kind, m, number, text⟩⟩ : Ln)]).length = T.l.length + 1 by simp] at hwin9
  obtain ⟨p9, q9, rfl⟩ := hwin9.len
  have hK79 : Keeps (Own (.slice p0 T.l.length q0)) w7 w9 := (Ext.keeps e78).trans hk9
  have HB9 := Lib.hid (hat8.box.keeps hk9 hbo)
  replace B1 := Lib.hid (B1.out.keeps hK79 hlo)
  replace HK : Hid (Keeps F w w9) := Lib.hid (HK.out.then hK79 (fun i hi h => (HAT.out.fv i h).1))
  have HW9 := Lib.hid hwin9
  have HO9 := Lib.hid ho9
  have HZ9 : Hid (w7.heap.size < w9.heap.size ∧ w7.heap.size < w8.heap.size ∧ w8.heap.size ≤ w9.heap.size) := Lib.hid (by have h1 := bz0.lt; have h2 := hk9.size; have h3 : w8.drew.heap.size = w8.heap.size := rfl; omega)
  clear e78 hll hat8 hwin9 hk9 ho9 hK79 bz0 ez c0 lt zz
  have d0 : w9.cell? ⟨b, 0, none⟩ = some (.slice p0 T.l.length q0) := HB9.out.reads.1 0
  have dz := HB9.out.reads.2
  have dl := HB9.out.lt
  refine ⟨?_⟩
  refine wpList_append_ran rfl _ _ hr9 rfl rfl rfl ?_
  clear hr9
  obtain ⟨cB1, zB1⟩ := B1.out.reads
  have lB1 := B1.out.lt
  go_wp2_with fail
  clear cB1 zB1 lB1
  have e4 : b ≠ w.heap.size + 1 := fun h => e3 h.symm
  have hkW : Keeps (TwoB b (w.heap.size + 1)) w9 (((((((w9.setCell ⟨b, 0, none⟩ (.slice p9 (T.l.length + 1) q9)).setCell ⟨w.heap.size + 1, 0, none⟩ (.int .i64 (T.l.length : Int))).setCell ⟨w.heap.size + 1, 1, none⟩ (.int .i64 T.slot)).setCell ⟨w.heap.size + 1, 2, none⟩ (.int .i64 kind)).setCell ⟨w.heap.size + 1, 3, none⟩ (.int .i64 (m : Int))).setCell ⟨w.heap.size + 1, 4, none⟩ (.int .i64 number)).setCell ⟨w.heap.size + 1, 5, none⟩ (.string (bs text))) := ((((((((Keeps.refl (TwoB b (w.heap.size + 1)) w9).setCell ⟨b, 0, none⟩ (.slice p9 (T.l.length + 1) q9) (.inl (.inl rfl))).setCell ⟨w.heap.size + 1, 0, none⟩ (.int .i64 (T.l.length : Int)) (.inl (.inr rfl))).setCell ⟨w.heap.size + 1, 1, none⟩ (.int .i64 T.slot) (.inl (.inr rfl))).setCell ⟨w.heap.size + 1, 2, none⟩ (.int .i64 kind) (.inl (.inr rfl))).setCell ⟨w.heap.size + 1, 3, none⟩ (.int .i64 (m : Int)) (.inl (.inr rfl))).setCell ⟨w.heap.size + 1, 4, none⟩ (.int .i64 number) (.inl (.inr rfl))).setCell ⟨w.heap.size + 1, 5, none⟩ (.string (bs text)) (.inl (.inr rfl)))
  have q := (((((((B1.out.other ⟨b, 0, none⟩ (.slice p9 (T.l.length + 1) q9) e3).set 0 (.int .i64 (T.l.length : Int))).set 1 (.int .i64 T.slot)).set 2 (.int .i64 kind)).set 3 (.int .i64 (m : Int))).set 4 (.int .i64 number)).set 5 (.string (bs text)))
  dsimp only [List.set_cons_zero, List.set_cons_succ] at q
  have hbW := (((((((HB9.out.set 0 (.slice p9 (T.l.length + 1) q9)).other ⟨w.heap.size + 1, 0, none⟩ (.int .i64 (T.l.length : Int)) e4).other ⟨w.heap.size + 1, 1, none⟩ (.int .i64 T.slot) e4).other ⟨w.heap.size + 1, 2, none⟩ (.int .i64 kind) e4).other ⟨w.heap.size + 1, 3, none⟩ (.int .i64 (m : Int)) e4).other ⟨w.heap.size + 1, 4, none⟩ (.int .i64 number) e4).other ⟨w.heap.size + 1, 5, none⟩ (.string (bs text)) e4)
  have q1 := q.reads.1
  have hput : T.put ⟨kind, m, number, text⟩ = ⟨T.l ++ [⟨(T.l.length : Int), T.slot, ⟨kind, m, number, text⟩⟩], wrap64 (T.slot + 1), T.st.set m ⟨i0, j0, l0⟩⟩ := by
    unfold TA.put
    rw [HCR.out, IntWalk.wrap64_in _ (by have := H0.out; omega)]
    rfl
  rw [hput]
  have hlt := HLT.out
  have hz := HZ9.out
  have h17 := H17.out
  have hko := HK.out.size
  refine bodyPost_ret (v := .tuple #[(⟨(T.l.length : Int), T.slot, ⟨kind, m, number, text⟩⟩ : Ln).v, .bool true, .int .i64 0]) (by simp [results, Tryd.results35, go_sem, q1, Ln.v]) rfl ⟨fun k => F k ∨ (w8.heap.size ≤ k ∧ k < w9.heap.size), rfl, ⟨.slice p9 (T.l.length + 1) q9, hbW, ?_, .inl HFB.out, ?_, ?_, by simpa using HAT.out.sts⟩, ?_, ?_⟩
  · have hw : Win _ 0 6 (.slice p9 (T.l.length + 1) q9) (T.l.length + 1) (lnsC (T.l ++ [(⟨(T.l.length : Int), T.slot, ⟨kind, m, number, text⟩⟩ : Ln)])) := HW9.out.keeps hkW (fun g hg h => by
      rcases HO9.out with h1 | h1
      · rw [h1] at hg
        have h2 := HAT.out.fv g hg
        have h3 := hlt g h2.1
        rcases h with h | h
        · exact h2.2 h
        · omega
      · rw [h1] at hg
        have h2 : w8.drew.heap.size = g := Option.some.inj hg
        have h3 : w8.drew.heap.size = w8.heap.size := rfl
        rcases h with h | h <;> omega)
    show Win _ 0 6 _ (T.l ++ [(⟨(T.l.length : Int), T.slot, ⟨kind, m, number, text⟩⟩ : Ln)]).length _
    rw [show (T.l ++ [(⟨(T.l.length : Int), T.slot, ⟨kind, m, number, text⟩⟩ : Ln)]).length = T.l.length + 1 by simp]
    exact hw
  · intro g hg
    rcases HO9.out with h1 | h1
    · rw [h1] at hg
      have h2 := HAT.out.fv g hg
      exact ⟨.inl h2.1, h2.2⟩
    · have hb9 := (HW9.out.block g hg).2
      rw [h1] at hg
      have h2 : w8.drew.heap.size = g := Option.some.inj hg
      have h3 : w8.drew.heap.size = w8.heap.size := rfl
      exact ⟨.inr ⟨by omega, hb9⟩, by omega⟩
  · intro k hk
    have h1 := hkW.size
    rcases hk with hk | hk
    · have := hlt k hk; omega
    · have := hk.2; omega
  · exact HK.out.then hkW (fun i hi h => by
      rcases h with h | h
      · obtain rfl : i = b := h; exact HFB.out
      · omega)
  · intro k hk
    rcases hk with hk | hk
    · exact .inl hk
    · have := hk.1; exact .inr (by omega)
end Go.Proofs.YthhdgjofagdjeaaDoor
end
section
/- must: it gives up with an error unless all is so. Condition: the truths lie in a block known whole. -/
set_option linter.unusedVariables false
set_option linter.unusedSimpArgs false
set_option maxHeartbeats 400000
set_option maxRecDepth 10000
namespace Go.Proofs.YthhdgjofagdjeaaDoor
open Go.RowKit

theorem index_1 (w : World) (b : Nat) (x y : Bool) (hb : Box w b 4 [.bool x]) : Calls Tryd.prog 80 #[.slice (some ⟨b, 0, none⟩) 1 1, .bool false] w fun e w' => e = .returned (.int .i64 (if x then -1 else 0)) ∧ w' = w := by
  have HB := Lib.hid hb
  clear hb
  cases x <;> cases y
  all_goals
    go_enter Tryd.func80, Tryd.ntmps80
    obtain ⟨cHB, zHB⟩ := HB.out.reads
    have lHB := HB.out.lt
    go_wp2_with fail
    refine wp_loop_rounds 4 ?_
    repeat (rw [rounds_succ]; go_wp2_with fail)
    go_ret
    exact ⟨rfl, rfl⟩
theorem contains_1 (w : World) (b : Nat) (x y : Bool) (hb : Box w b 4 [.bool x]) : Calls Tryd.prog 66 #[.slice (some ⟨b, 0, none⟩) 1 1, .bool false] w fun e w' => e = .returned (.bool (!(x && true))) ∧ w' = w := by
  have HB := Lib.hid hb
  clear hb
  go_enter Tryd.func66, Tryd.ntmps66
  go_wp2_with fail
  refine (index_1 w b x y HB.out).mono ?_
  rintro e w' ⟨rfl, rfl⟩
  cases x <;> cases y
  all_goals
    go_wp2_with fail
    go_ret
    exact ⟨rfl, rfl⟩
theorem must_ok_1 (w : World) (b : Nat) (n : Int) (x y : Bool) (hb : Box w b 4 [.bool x]) (h : (x && true) = true) : Calls Tryd.prog 45 #[.int .i64 n, .slice (some ⟨b, 0, none⟩) 1 1] w fun e w' => e = .returned (.tuple #[]) ∧ w' = w := by
  have HB := Lib.hid hb
  have HH := Lib.hid h
  clear hb h
  go_enter Tryd.func45, Tryd.ntmps45
  go_wp2_with fail
  refine (contains_1 w b x y HB.out).mono ?_
  rintro e w' ⟨rfl, rfl⟩
  rw [HH.out]
  go_wp2_with fail
  go_end0
  exact ⟨rfl, rfl⟩
theorem must_bad_1 (w : World) (b : Nat) (n : Int) (x y : Bool) (hb : Box w b 4 [.bool x]) (h : (x && true) = false) : Calls Tryd.prog 45 #[.int .i64 n, .slice (some ⟨b, 0, none⟩) 1 1] w fun e w' => e = .panicked [{ v := .iface 22 (.int .i64 n), recovered := false }] ∧ w' = w := by
  have HB := Lib.hid hb
  have HH := Lib.hid h
  clear hb h
  go_enter Tryd.func45, Tryd.ntmps45
  go_wp2_with fail
  refine (contains_1 w b x y HB.out).mono ?_
  rintro e w' ⟨rfl, rfl⟩
  rw [HH.out]
  go_wp2_with fail
  exact ⟨rfl, rfl, rfl⟩
theorem index_2 (w : World) (b : Nat) (x y : Bool) (hb : Box w b 4 [.bool x, .bool y]) : Calls Tryd.prog 80 #[.slice (some ⟨b, 0, none⟩) 2 2, .bool false] w fun e w' => e = .returned (.int .i64 (if x then (if y then -1 else 1) else 0)) ∧ w' = w := by
  have HB := Lib.hid hb
  clear hb
  cases x <;> cases y
  all_goals
    go_enter Tryd.func80, Tryd.ntmps80
    obtain ⟨cHB, zHB⟩ := HB.out.reads
    have lHB := HB.out.lt
    go_wp2_with fail
    refine wp_loop_rounds 4 ?_
    repeat (rw [rounds_succ]; go_wp2_with fail)
    go_ret
    exact ⟨rfl, rfl⟩
theorem contains_2 (w : World) (b : Nat) (x y : Bool) (hb : Box w b 4 [.bool x, .bool y]) : Calls Tryd.prog 66 #[.slice (some ⟨b, 0, none⟩) 2 2, .bool false] w fun e w' => e = .returned (.bool (!(x && y))) ∧ w' = w := by
  have HB := Lib.hid hb
  clear hb
  go_enter Tryd.func66, Tryd.ntmps66
  go_wp2_with fail
  refine (index_2 w b x y HB.out).mono ?_
  rintro e w' ⟨rfl, rfl⟩
  cases x <;> cases y
  all_goals
    go_wp2_with fail
    go_ret
    exact ⟨rfl, rfl⟩
theorem must_ok_2 (w : World) (b : Nat) (n : Int) (x y : Bool) (hb : Box w b 4 [.bool x, .bool y]) (h : (x && y) = true) : Calls Tryd.prog 45 #[.int .i64 n, .slice (some ⟨b, 0, none⟩) 2 2] w fun e w' => e = .returned (.tuple #[]) ∧ w' = w := by
  have HB := Lib.hid hb
  have HH := Lib.hid h
  clear hb h
  go_enter Tryd.func45, Tryd.ntmps45
  go_wp2_with fail
  refine (contains_2 w b x y HB.out).mono ?_
  rintro e w' ⟨rfl, rfl⟩
  rw [HH.out]
  go_wp2_with fail
  go_end0
  exact ⟨rfl, rfl⟩
theorem must_bad_2 (w : World) (b : Nat) (n : Int) (x y : Bool) (hb : Box w b 4 [.bool x, .bool y]) (h : (x && y) = false) : Calls Tryd.prog 45 #[.int .i64 n, .slice (some ⟨b, 0, none⟩) 2 2] w fun e w' => e = .panicked [{ v := .iface 22 (.int .i64 n), recovered := false }] ∧ w' = w := by
  have HB := Lib.hid hb
  have HH := Lib.hid h
  clear hb h
  go_enter Tryd.func45, Tryd.ntmps45
  go_wp2_with fail
  refine (contains_2 w b x y HB.out).mono ?_
  rintro e w' ⟨rfl, rfl⟩
  rw [HH.out]
  go_wp2_with fail
  exact ⟨rfl, rfl, rfl⟩
end Go.Proofs.YthhdgjofagdjeaaDoor
end
section
/- A map from entries to bools, all true: a set, in the order of its entries: look-up, store, making. Conditions: it lies as 'EnSet' says. No program's function is named here. -/
set_option linter.unusedVariables false
set_option linter.unusedSimpArgs false
set_option maxRecDepth 100000
set_option maxHeartbeats 400000
namespace Go.Proofs.YthhdgjofagdjeaaDoor
open Go.RowKit Go.WideMaps Go.ChangeMaps

def OkE (e : En) : Prop := I64 e.kind ∧ I64 e.member ∧ I64 e.number ∧ e.text.length ≤ maxLen
theorem En.v_inj {p q : En} (h : p.v = q.v) : p = q := by
  obtain ⟨a, b, c, d⟩ := p
  obtain ⟨a', b', c', d'⟩ := q
  simp [En.v] at h
  obtain ⟨h1, h2, h3, h4⟩ := h
  rw [h1, h2, h3, bs_inj h4]
theorem en_law : Go.Maps.Keyed Tryd.prog 35 :=
  Go.Maps.Keyed.of_law (deep_law_gate (by kernel_rfl) (by decide +kernel) (by decide +kernel) (by kernel_rfl) (by kernel_rfl))
theorem en_types : Tryd.prog.keyType 35 = true := by kernel_rfl
theorem en_types_size : Tryd.prog.types.size + 1 = (Tryd.prog.types.size - 1) + 1 + 1 := by kernel_rfl
theorem keyLits_i {P : Program} {d : Nat} {t : TypeId} {n : Int} (ht : P.underlying t = some (.int .i64)) (hw : I64 n) : P.keyLits (d + 1) t [.int .i64 n] = some [.int .i64 n] := by
  unfold Program.keyLits
  simp only [ht]
  rw [if_pos ⟨trivial, wf_i64 hw⟩]
theorem keyLits_s {P : Program} {d : Nat} {t : TypeId} {l : List UInt8} (ht : P.underlying t = some .string) (hw : l.length ≤ maxLen) : P.keyLits (d + 1) t [.string (bs l)] = some [.string l] := by
  unfold Program.keyLits
  simp only [ht]
  rw [if_pos (by rw [bs_size]; exact hw), bs_data]
theorem en_key {e : En} (h : OkE e) : ∃ l, keyOf Tryd.prog 35 e.v = some l := by
  obtain ⟨h1, h2, h3, h4⟩ := h
  have k1 := keyLits_i (d := Tryd.prog.types.size - 1) Tryd.underlying33 h1
  have k2 := keyLits_i (d := Tryd.prog.types.size - 1) Tryd.underlying3 h2
  have k3 := keyLits_i (d := Tryd.prog.types.size - 1) Tryd.underlying2 h3
  have k4 := keyLits_s (d := Tryd.prog.types.size - 1) Tryd.underlying9 h4
  have hc : Tryd.prog.cellsOf 35 = 4 := by kernel_rfl
  have c1 : Tryd.prog.cellsOf 33 = 1 := by kernel_rfl
  have c2 : Tryd.prog.cellsOf 3 = 1 := by kernel_rfl
  have c3 : Tryd.prog.cellsOf 2 = 1 := by kernel_rfl
  have c4 : Tryd.prog.cellsOf 9 = 1 := by kernel_rfl
  have hl : Tryd.prog.keyLits ((Tryd.prog.types.size - 1) + 1 + 1) 35 e.cells = some [.int .i64 e.kind, .int .i64 e.member, .int .i64 e.number, .string e.text] := by
    unfold Program.keyLits En.cells
    simp only [Tryd.underlying35, hc]
    rw [if_pos ⟨rfl, by decide +kernel⟩]
    simp only [List.mapM_cons, List.mapM_nil, c1, c2, c3, c4, List.drop_zero, List.drop_succ_cons, List.take_succ_cons, List.take_zero, k1, k2, k3, k4]
    rfl
  rw [← en_types_size] at hl
  have hf : e.v.formed Tryd.prog 35 = true := by
    unfold En.v Value.formed
    simp only [Tryd.underlying35, hc]
    rfl
  have hcs : e.v.cells.toList = e.cells := rfl
  refine ⟨.string (keyBytes [.int .i64 e.kind, .int .i64 e.member, .int .i64 e.number, .string e.text]), ?_⟩
  unfold keyOf
  simp only [Tryd.underlying35]
  rw [if_pos (by rw [en_types, hf]; rfl), hcs, hl]
  rfl

/-- the block is a map whose keys are D, in this order, all true -/
def EnSet (w : World) (m : Nat) (D : List En) : Prop :=
  ∃ es clock, w.heap[m]? = some (.map es clock) ∧ Go.MapKept.Stamped es clock ∧ es.toList.map (fun e => (e.key, e.val)) = D.map (fun p => (p.v, Value.bool true)) ∧ ∀ p ∈ D, OkE p
section
variable {w w' : World} {m : Nat} {D : List En}
theorem EnSet.lt (h : EnSet w m D) : m < w.heap.size := let ⟨_, _, h1, _⟩ := h; (Array.getElem?_eq_some_iff.1 h1).1
theorem EnSet.keeps {S : Nat → Prop} (h : EnSet w m D) (hk : Keeps S w w') (hs : ¬ S m) : EnSet w' m D := by
  have hl := h.lt
  obtain ⟨es, c, h1, h2⟩ := h
  exact ⟨es, c, (hk.block m hl hs).trans h1, h2⟩
theorem EnSet.ext (h : EnSet w m D) (hk : Ext w w') : EnSet w' m D := h.keeps hk (noB _)
theorem enset_new (w : World) : EnSet (w.alloc (.map #[] 0)) w.heap.size [] :=
  ⟨#[], 0, World.alloc_heap_new w _, by unfold Go.MapKept.Stamped; simp, rfl, by simp⟩
theorem enset_get {es : List MapEntry} {j : Nat} {e : MapEntry} (h : es.map (fun e => (e.key, e.val)) = D.map (fun p => (p.v, Value.bool true))) (he : es[j]? = some e) : ∃ p, D[j]? = some p ∧ e.key = p.v ∧ e.val = .bool true := by
  have h1 := congrArg (·[j]?) h
  simp only [List.getElem?_map, he, Option.map_some] at h1
  cases hd : D[j]? with
  | none => rw [hd] at h1; simp at h1
  | some p =>
    rw [hd] at h1
    simp at h1
    exact ⟨p, rfl, h1.1, h1.2⟩
theorem enset_mem {es : List MapEntry} (h : es.map (fun e => (e.key, e.val)) = D.map (fun p => (p.v, Value.bool true))) {e : MapEntry} (he : e ∈ es) : ∃ p ∈ D, e.key = p.v ∧ e.val = .bool true := by
  obtain ⟨j, hj, rfl⟩ := List.getElem_of_mem he
  obtain ⟨p, h1, h2⟩ := enset_get h (List.getElem?_eq_getElem hj)
  exact ⟨p, List.mem_of_getElem? h1, h2⟩
theorem enset_find {es : List MapEntry} (h : es.map (fun e => (e.key, e.val)) = D.map (fun p => (p.v, Value.bool true))) (hD : ∀ p ∈ D, OkE p) {e : En} (ha : OkE e) :
    ((Instr.findKey 35 e.v es).run Tryd.prog w = .ok none w ∧ e ∉ D) ∨ ∃ j, (Instr.findKey 35 e.v es).run Tryd.prog w = .ok (some (j, .bool true)) w ∧ D[j]? = some e ∧ ∃ x, es[j]? = some x ∧ x.key = e.v := by
  obtain ⟨l, hl⟩ := en_key ha
  have hkeys : ∀ x ∈ es, ∃ l, keyOf Tryd.prog 35 x.key = some l := fun x hx => by
    obtain ⟨p, hp, hk, _⟩ := enset_mem h hx
    rw [hk]
    exact en_key (hD p hp)
  rcases en_law.find w hl es hkeys with ⟨h1, h2⟩ | ⟨j, x, h1, h2, h3⟩
  · refine .inl ⟨h1, fun hm => ?_⟩
    obtain ⟨j, hj, hjd⟩ := List.getElem_of_mem hm
    have hlen : es.length = D.length := by simpa using congrArg List.length h
    obtain ⟨p, hp, hk, _⟩ := enset_get (D := D) h (List.getElem?_eq_getElem (show j < es.length by omega))
    rw [List.getElem?_eq_getElem hj, hjd] at hp
    cases hp
    exact h2 _ (List.getElem_mem _) hk
  · obtain ⟨p, hp, hk, hv⟩ := enset_get h h2
    rw [hv] at h1
    refine .inr ⟨j, h1, ?_, x, h2, h3⟩
    rw [hp, En.v_inj (hk.symm.trans h3)]
theorem zeroB (w : World) : (zeroValue 4).run Tryd.prog w = .ok (.bool false) w := by kernel_rfl
/-- was it put in? -/
theorem run_enhas (h : EnSet w m D) {e : En} (ha : OkE e) :
    (Instr.lookup 72 (.map (some m)) e.v false).run Tryd.prog w = .ok (.bool (decide (e ∈ D))) w := by
  obtain ⟨es, clock, h1, h2, h3, h4⟩ := h
  obtain ⟨l, hl⟩ := en_key ha
  rcases enset_find (w := w) h3 h4 ha with ⟨h5, h6⟩ | ⟨j, h5, h8, _⟩
  · simp [Instr.lookup, run_underlying Tryd.underlying72, Go.MapKept.run_getObj_map h1, en_law.check w _ hl, h5, zeroB, Result.andThen, h6]
  · have hm := List.mem_of_getElem? h8
    simp [Instr.lookup, run_underlying Tryd.underlying72, Go.MapKept.run_getObj_map h1, en_law.check w _ hl, h5, Result.andThen, hm]
/-- 'm[e] = true', e not there -/
theorem run_enput (h : EnSet w m D) {e : En} (ha : OkE e) (hn : e ∉ D) :
    ∃ w', (Instr.mapUpdate 72 (.map (some m)) e.v (.bool true)).run Tryd.prog w = .ok () w' ∧ EnSet w' m (D ++ [e]) ∧ Keeps (OneB m) w w' := by
  obtain ⟨es, clock, h1, h2, h3, h4⟩ := h
  obtain ⟨l, hl⟩ := en_key ha
  rcases enset_find (w := w) h3 h4 ha with ⟨h5, h6⟩ | ⟨j, h5, h8, _⟩
  · refine ⟨setBlock w m (.map (es.push ⟨e.v, .bool true, clock⟩) (clock + 1)), by simp [Instr.mapUpdate, run_underlying Tryd.underlying72, Go.MapKept.run_getObj_map h1, en_law.check w _ hl, h5, Go.MapKept.run_setObj_map _ h1, Result.andThen, setBlock], ?_, ?_⟩
    · refine ⟨_, _, Go.ChangeMaps.heap_setBlock_same h1 _, Go.MapKept.stamped_push h2 (fun x hx he => ?_), ?_, ?_⟩
      · obtain ⟨p, hp, hk, _⟩ := enset_mem h3 hx
        rw [hk] at he
        exact hn (En.v_inj he ▸ hp)
      · rw [Array.toList_push, List.map_append, h3, List.map_append]; rfl
      · intro p hp
        rcases List.mem_append.1 hp with hp | hp
        · exact h4 p hp
        · obtain rfl := List.mem_singleton.1 hp; exact ha
    · exact ⟨rfl, rfl, rfl, by simp [setBlock], fun i _ hi => Go.ChangeMaps.heap_setBlock_other h1 _ hi⟩
  · exact absurd (List.mem_of_getElem? h8) hn
/-- 'm[e] = true', e there already -/
theorem run_enput_same (h : EnSet w m D) {e : En} (ha : OkE e) (hn : e ∈ D) :
    ∃ w', (Instr.mapUpdate 72 (.map (some m)) e.v (.bool true)).run Tryd.prog w = .ok () w' ∧ EnSet w' m D ∧ Keeps (OneB m) w w' := by
  obtain ⟨es, clock, h1, h2, h3, h4⟩ := h
  obtain ⟨l, hl⟩ := en_key ha
  rcases enset_find (w := w) h3 h4 ha with ⟨h5, h6⟩ | ⟨j, h5, h8, x, hx, hxk⟩
  · exact absurd hn h6
  · have hx' : es[j]? = some x := by rw [← Array.getElem?_toList]; exact hx
    have hsb : Instr.sameBits 10000 x.key e.v = true := by
      rw [hxk]
      simp [Instr.sameBits, En.v]
      first | exact (show (e.text.toArray == e.text.toArray) = true by simp) | (unfold bs; simp [BEq.beq]) | rfl
    have hks : (Instr.keyThatStays x.key e.v).run Tryd.prog w = .ok e.v w := by
      unfold Instr.keyThatStays
      rw [if_pos hsb]
      rfl
    refine ⟨setBlock w m (.map (es.modify j fun y => { y with key := e.v, val := .bool true }) clock), by simp [Instr.mapUpdate, run_underlying Tryd.underlying72, Go.MapKept.run_getObj_map h1, en_law.check w _ hl, h5, hx', hks, Go.MapKept.run_setObj_map _ h1, Result.andThen, setBlock], ?_, ?_⟩
    · have hv : x.val = .bool true := by
        obtain ⟨p, _, _, hv⟩ := enset_get h3 hx
        exact hv
      have hsame : es.modify j (fun y => { y with key := e.v, val := .bool true }) = es := by
        apply Array.ext_getElem?
        intro i
        rw [Array.getElem?_modify]
        split
        · rename_i hij
          subst hij
          rw [hx', Option.map_some, ← hxk, ← hv]
        · rfl
      rw [hsame]
      exact ⟨es, clock, Go.ChangeMaps.heap_setBlock_same h1 _, h2, h3, h4⟩
    · exact ⟨rfl, rfl, rfl, by simp [setBlock], fun i _ hi => Go.ChangeMaps.heap_setBlock_other h1 _ hi⟩
end
end Go.Proofs.YthhdgjofagdjeaaDoor
end
section
/- A judge in memory; whether there is one, how often something was broken. Condition: it lies as 'JudgeAt' says. -/
set_option linter.unusedVariables false
set_option linter.unusedSimpArgs false
set_option maxHeartbeats 1000000
set_option maxRecDepth 10000
namespace Go.Proofs.YthhdgjofagdjeaaDoor
open Go.RowKit

structure JA where
  n : Int
  m : Int
  T : TA
  told : List Int
  next : List Int
  put : List En
  broken : Int
def iV (n : Int) : Value := .int .i64 n
def JA.cells (J : JA) (tb mb : Nat) : List Value := J.told.map iV ++ (J.next.map iV ++ [.int .i64 J.broken, .int .i64 J.n, .int .i64 J.m, .pointer (some ⟨tb, 0, none⟩), .map (some mb)])
structure JudgeAt (w : World) (F Ft : Nat → Prop) (b tb mb : Nat) (J : JA) : Prop where
  box : Box w b 76 (J.cells tb mb)
  talk : TalkX w Ft tb J.T
  map : EnSet w mb J.put
  fb : F b
  fm : F mb
  ft : ∀ k, Ft k → F k
  nb : ¬ Ft b
  nm : ¬ Ft mb
  bm : b ≠ mb
  lt : ∀ k, F k → k < w.heap.size
  l9 : J.told.length = 9
  l16 : J.next.length = 16
def JudgeX (w : World) (F : Nat → Prop) (b : Nat) (J : JA) : Prop := ∃ Ft tb mb, JudgeAt w F Ft b tb mb J
section
variable {w w' : World} {F Ft S : Nat → Prop} {b tb mb : Nat} {J : JA}
theorem JudgeAt.keeps (h : JudgeAt w F Ft b tb mb J) (hk : Keeps S w w') (hS : ∀ k, F k → ¬ S k) : JudgeAt w' F Ft b tb mb J :=
  { h with box := h.box.keeps hk (hS b h.fb), talk := h.talk.keeps hk (fun k hF => hS k (h.ft k hF)), map := h.map.keeps hk (hS mb h.fm), lt := fun k hF => Nat.lt_of_lt_of_le (h.lt k hF) hk.size }
theorem JudgeX.keeps (h : JudgeX w F b J) (hk : Keeps S w w') (hS : ∀ k, F k → ¬ S k) : JudgeX w' F b J := let ⟨Ft, tb, mb, h⟩ := h; ⟨Ft, tb, mb, h.keeps hk hS⟩
theorem JudgeX.ext (h : JudgeX w F b J) (hk : Ext w w') : JudgeX w' F b J := h.keeps hk fun _ _ => noB _
theorem JA.at (J : JA) (tb mb : Nat) (h9 : J.told.length = 9) (h16 : J.next.length = 16) :
    (∀ p (hp : p < 9), (J.cells tb mb)[p]? = some (.int .i64 (J.told[p]'(by omega)))) ∧ (∀ p (hp : p < 16), (J.cells tb mb)[9 + p]? = some (.int .i64 (J.next[p]'(by omega)))) ∧
    (J.cells tb mb)[25]? = some (.int .i64 J.broken) ∧ (J.cells tb mb)[26]? = some (.int .i64 J.n) ∧ (J.cells tb mb)[27]? = some (.int .i64 J.m) ∧ (J.cells tb mb)[28]? = some (.pointer (some ⟨tb, 0, none⟩)) ∧ (J.cells tb mb)[29]? = some (.map (some mb)) := by
  have a1 : (J.told.map iV).length = 9 := by rw [List.length_map, h9]
  have a2 : (J.next.map iV).length = 16 := by rw [List.length_map, h16]
  have key : ∀ j, (J.cells tb mb)[25 + j]? = ([Value.int .i64 J.broken, .int .i64 J.n, .int .i64 J.m, .pointer (some ⟨tb, 0, none⟩), .map (some mb)] : List Value)[j]? := by
    intro j
    unfold JA.cells
    rw [List.getElem?_append_right (by omega), List.getElem?_append_right (by omega), a1, a2]
    congr 1
    omega
  refine ⟨fun p hp => ?_, fun p hp => ?_, key 0, key 1, key 2, key 3, key 4⟩
  · unfold JA.cells
    rw [List.getElem?_append_left (by omega), List.getElem?_map, List.getElem?_eq_getElem (by omega)]; rfl
  · unfold JA.cells
    rw [List.getElem?_append_right (by omega), List.getElem?_append_left (by omega), a1, List.getElem?_map, List.getElem?_eq_getElem (by omega)]
    simp [iV]
theorem JudgeAt.see (h : JudgeAt w F Ft b tb mb J) : w.cell? ⟨b, 25, none⟩ = some (.int .i64 J.broken) ∧ w.cell? ⟨b, 26, none⟩ = some (.int .i64 J.n) ∧ w.cell? ⟨b, 27, none⟩ = some (.int .i64 J.m) ∧ w.cell? ⟨b, 28, none⟩ = some (.pointer (some ⟨tb, 0, none⟩)) ∧ w.cell? ⟨b, 29, none⟩ = some (.map (some mb)) ∧ b < w.heap.size := by
  obtain ⟨_, _, h1, h2, h3, h4, h5⟩ := J.at tb mb h.l9 h.l16
  have hr := h.box.reads.1
  exact ⟨(hr _).trans h1, (hr _).trans h2, (hr _).trans h3, (hr _).trans h4, (hr _).trans h5, h.box.lt⟩
end
theorem judge_none {F : Nat → Prop} (w : World) (b : Nat) (J : JA) (h : JudgeX w F b J) : Calls Tryd.prog 27 #[.pointer (some ⟨b, 0, none⟩)] w fun e w' => e = .returned (.bool false) ∧ w' = w := by
  obtain ⟨Ft, tb, mb, h⟩ := h
  obtain ⟨c25, c26, c27, c28, c29, lt⟩ := h.see
  clear h
  go_enter Tryd.func27, Tryd.ntmps27
  go_wp2_with fail
  go_ret
  exact ⟨rfl, rfl⟩
theorem judge_broken {F : Nat → Prop} (w : World) (b : Nat) (J : JA) (h : JudgeX w F b J) : Calls Tryd.prog 22 #[.pointer (some ⟨b, 0, none⟩)] w fun e w' => e = .returned (.int .i64 J.broken) ∧ w' = w := by
  have HX := Lib.hid h
  clear h
  go_enter Tryd.func22, Tryd.ntmps22
  go_wp2_with fail
  refine (judge_none w b J HX.out).mono ?_
  rintro e w' ⟨rfl, rfl⟩
  obtain ⟨Ft, tb, mb, h⟩ := HX.out
  obtain ⟨c25, c26, c27, c28, c29, lt⟩ := h.see
  clear h
  go_wp2_with fail
  go_ret
  exact ⟨rfl, rfl⟩
end Go.Proofs.YthhdgjofagdjeaaDoor
end
