/- slices.Collect of a ring's items. Conditions: the sequence lies as 'SeqAt' says. -/
import Derived.Test.YtocjnieehogcbaaSame
import Derived.BigFrameIn
set_option linter.unusedVariables false
set_option maxHeartbeats 400000
namespace Go.Proofs.Ytocjnieehogcbaa
open Go.RowKit
attribute [local go_sem] Oper.semAt_some

structure CI (w w1 W : World) (b n k : Nat) (l : List It) (v : Value) (cs : List Value) (D : Nat → Prop) : Prop where
  keep : Keeps (OneB b) w1 W
  box : Box W b 46 [v]
  win : Win W n 3 v k cs
  row : RowOf 3 (ItemEn W D) cs (l.take k)
  dom : ∀ g, D g → n ≤ g ∧ g < W.heap.size ∧ ¬ Own v g

set_option maxRecDepth 10000 in
set_option maxHeartbeats 2000000 in
theorem append_seq {A : Nat → Prop} (w : World) (bx : Nat) (l : List It) (h : SeqAt w A bx l) (hl : l.length ≤ 1000) (hx : ∀ x ∈ l, x.bytes.length ≤ 1000000) (hA : ∀ k, A k → k < w.heap.size) (hbx : bx < w.heap.size) :
    Calls Try.prog 51 #[.slice none 0 0, .func (.func 41) #[] #[.pointer (some ⟨bx, 0, none⟩)]] w fun e w' =>
      ∃ v, e = .returned v ∧ SlV (fun k => w.heap.size ≤ k ∧ k < w'.heap.size) (ItemAt w' (fun k => w.heap.size ≤ k ∧ k < w'.heap.size)) 3 v l ∧ Ext w w' := by
  refine (callsIn_wide (n := 9)).1 (callsIn_of_wp_marks Try.func51 rfl trivial ?_ rfl)
  simp only [Try.ntmps51, List.size_toArray, List.length_cons, List.length_nil, Nat.reduceAdd, Nat.reduceSub, Array.replicate_succ, Array.replicate_zero, List.push_toArray, List.append_toArray, List.nil_append, List.cons_append]
  have HS := Lib.hid h
  have HX := Lib.hid hx
  have HA := Lib.hid hA
  clear h hx hA
  gi_wp2_with fail
  have ba0 := (Box.new w 46 [.slice none 0 0])
  have ea : Ext w (w.alloc (Obj.cells #[.slice none 0 0] 46)) := ((Keeps.refl NoB w).alloc _)
  have sa : (w.alloc (Obj.cells #[.slice none 0 0] 46)).heap.size = w.heap.size + 1 := by simp
  generalize (w.alloc (Obj.cells #[.slice none 0 0] 46)) = w1 at ba0 ea sa ⊢
  have Sa := Lib.hid sa
  clear sa
  have HEa := Lib.hid ea
  have BA := Lib.hid ba0
  clear ea ba0
  have hsz := Sa.out
  refine wpIn_range rfl (by omega) (gf := 41) (lb := #[.pointer (some ⟨bx, 0, none⟩)]) rfl trivial (enters_of Try.func41 (by kernel_rfl) rfl)
    (S := OneB w.heap.size) (iter_ring w1 bx l (HS.out.ext HEa.out) (by unfold OneB; omega) (fun k h1 h2 => by have := HA.out k h1; unfold OneB at h2; omega) HX.out hl) (by rintro x v W0 W ⟨bv, rfl, _⟩; rfl)
    (fun k W => ∃ v cs D, CI w w1 W w.heap.size (w1.heap.size + 2) k l v cs D)
    (fun _ _ _ => False) (fun k W h => by obtain ⟨v, cs, D, h⟩ := h; exact h.keep)
    (fun k W W' h hk => by
      obtain ⟨v, cs, D, h⟩ := h
      have hb := h.win.block
      exact ⟨v, cs, D, h.keep.then hk (fun i hi h => by unfold OneB at h ⊢; omega), h.box.keeps hk (by unfold OneB; omega), h.win.keeps hk (fun g hg h2 => by have := hb g hg; unfold OneB at h2; omega),
        h.row.mono (fun c x hc => hc.keeps hk (fun g hg h2 => by have := h.dom g hg; unfold OneB at h2; omega)), fun g hg => by have h1 := h.dom g hg; have := hk.size; exact ⟨by omega, by omega, h1.2.2⟩⟩)
    (fun _ _ _ _ h _ => h) ⟨_, [], fun _ => False, Keeps.refl _ _, BA.out, Win.nil _ _ _, RowOf.nil, fun g hg => hg.elim⟩ ?_ ?_ (fun _ _ _ _ h _ => h.elim)
  · rintro k hk v W0 W ⟨v0, cs, D, hh0⟩ hE0 - ⟨bv, rfl, hbv, hwr, hn⟩ hlt0 hlt
    have hblk := hh0.win.block
    have hh : CI w w1 W w.heap.size (w1.heap.size + 2) k l v0 cs D := ⟨hh0.keep.ext hE0, hh0.box.ext hE0, hh0.win.ext hE0, hh0.row.mono (fun c x hc => hc.keeps hE0 (fun _ _ => noB _)), fun g hg => by have h1 := hh0.dom g hg; have := hE0.size; exact ⟨by omega, by omega, h1.2.2⟩⟩
    have HD0 := Lib.hid hh0.dom
    have HBL := Lib.hid hblk
    have h0W := hE0.size
    clear hh0 hE0 hblk
    obtain ⟨av, cv, rfl⟩ := hbv.len
    have hx1 := HX.out _ (List.getElem_mem hk)
    have htk : l.take (k + 1) = l.take k ++ [l[k]] := List.take_succ_eq_append_getElem hk
    generalize l[k] = y at hbv htk hx1 ⊢
    have HTK := Lib.hid htk
    have HH := Lib.hid hh
    have HBV := Lib.hid hbv
    clear hh hbv hwr htk hsz
    gi_wp2_with fail
    refine ⟨(Keeps.refl _ _).alloc _, fun W2 hW2 => ?_⟩
    have bx1 := (Box.new W 31 [.bool y.side, .int .i64 y.key, .slice av y.bytes.length cv]).keeps hW2 (by unfold OneB; omega)
    have hb := HH.out.win.block
    have b0 := (HH.out.box.alloc (Obj.cells #[.bool y.side, .int .i64 y.key, .slice av y.bytes.length cv] 31)).keeps hW2 (by unfold OneB; have := HH.out.box.lt; have := HEa.out.size; omega)
    have h1W : Keeps (OneB w.heap.size) w1 (W.alloc (Obj.cells #[.bool y.side, .int .i64 y.key, .slice av y.bytes.length cv] 31)) := HH.out.keep.alloc _
    have h12 : Keeps (OneB w.heap.size) w1 W2 := h1W.then hW2 (fun i hi h => by unfold OneB at h ⊢; omega)
    have hEW : Keeps (OneB (w1.heap.size + 1)) W W2 := ((Keeps.refl (OneB (w1.heap.size + 1)) W).alloc (Obj.cells #[.bool y.side, .int .i64 y.key, .slice av y.bytes.length cv] 31)).trans hW2
    have hwin := HH.out.win.keeps hEW (fun g hg h2 => by have := hb g hg; unfold OneB at h2; omega)
    have hrow := HH.out.row.mono (En' := ItemEn W2 D) (fun c x hc => hc.keeps hEW (fun g hg h2 => by have := HH.out.dom g hg; unfold OneB at h2; omega))
    have hbv := HBV.out.keeps hEW (fun g hg h2 => by unfold OneB at h2; omega)
    have hWW := hEW.size
    have hn1 := hn
    have e3 : Ext W2 (W2.alloc (Obj.cells #[.bool y.side, .int .i64 y.key, .slice av y.bytes.length cv] 31)) := (Keeps.refl _ _).alloc _
    have hlk : (l.take k).length = k := by rw [List.length_take]; omega
    obtain ⟨v5, W5, hr5, hwin5, hk5, ho5⟩ := append_items (A := fun g => W0.heap.size ≤ g ∧ g < W.heap.size) (W2.alloc (Obj.cells #[.bool y.side, .int .i64 y.key, .slice av y.bytes.length cv] 31)) (w1.heap.size + 2) v0 cs (l.take k) 46 (by rw [hlk]; exact hwin.ext e3) (.slice (some ⟨W2.heap.size, 0, none⟩) 1 1) _ [y] (Box.src (Box.new W2 31 [.bool y.side, .int .i64 y.key, .slice av y.bytes.length cv]) 1 1) (RowOf.one ⟨_, rfl, hbv.ext e3⟩ rfl) (by rw [hlk]; simp; omega) (by have := e3.size; omega)
    have b05 := (b0.ext e3).keeps hk5 (fun h2 => by have := hb _ h2; have := HEa.out.size; omega)
    obtain ⟨a5, d5, rfl⟩ := hwin5.len
    obtain ⟨c0, z0⟩ := b0.reads
    obtain ⟨c1, z1⟩ := bx1.reads
    obtain ⟨c5, z5⟩ := b05.reads
    have l0 := b0.lt
    have l1 := bx1.lt
    have l5 := b05.lt
    have h55 := hk5.size
    have hEZ : Keeps (OneB w.heap.size) w1 W5 := (h12.ext e3).then hk5 (fun i hi h2 => by have := hb _ h2; omega)
    have hD5 : ∀ g, (D g ∨ (W0.heap.size ≤ g ∧ g < W.heap.size)) → w1.heap.size + 2 ≤ g ∧ g < W5.heap.size ∧ ¬ Own v0 g ∧ g ≠ (W2.alloc (Obj.cells #[.bool y.side, .int .i64 y.key, .slice av y.bytes.length cv] 31)).heap.size := fun g hg => by
      have hs2 := e3.size
      rcases hg with hg | hg
      · have h1 := HD0.out g hg
        exact ⟨by omega, by omega, h1.2.2, by omega⟩
      · exact ⟨by omega, by omega, fun h2 => by have := HBL.out g h2; omega, by omega⟩
    have hrow5 := RowOf.append (hrow.mono (En' := ItemEn W5 (fun g => D g ∨ (W0.heap.size ≤ g ∧ g < W.heap.size))) (fun c x hc => ((hc.keeps e3 (fun _ _ => noB _)).keeps hk5 (fun g hg h2 => (hD5 g (.inl hg)).2.2.1 h2)).mono (fun g hg => .inl hg))) (RowOf.one (x := y) (En := ItemEn W5 (fun g => D g ∨ (W0.heap.size ≤ g ∧ g < W.heap.size))) (c := [.bool y.side, .int .i64 y.key, .slice av y.bytes.length cv]) ⟨_, rfl, ((hbv.ext e3).keeps hk5 (fun g hg h2 => (hD5 g (.inr hg)).2.2.1 h2)).mono (fun g hg => Or.inr hg)⟩ rfl)
    have HK5 := Lib.hid ((Ext.keeps e3 : Keeps (RB (OneB w.heap.size) w1.heap.size) W2 _).then hk5 (fun i hi h2 => .inr (hb _ h2).1))
    have HEZ := Lib.hid hEZ
    have HD5 := Lib.hid hD5
    have HROW := Lib.hid hrow5
    have HW5 := Lib.hid hwin5
    have HO5 := Lib.hid ho5
    have HB5 := Lib.hid b05
    have hbx := HEa.out.size
    clear b0 bx1 b05 h12 h1W hEW hwin hrow hbv hWW e3 hk5 ho5 hwin5 hEZ hD5 hrow5 hb hW2
    gi_wp2_with (gi_at_builtin; refine wpListIn_append_ran rfl _ _ hr5 rfl rfl rfl ?_)
    have hk55 : Keeps (OneB w.heap.size) W5 (W5.setCell ⟨w.heap.size, 0, none⟩ (.slice a5 (k + 1) d5)) := (Keeps.refl _ _).setOne _ _
    have hlk1 : (l.take k ++ [y]).length = k + 1 := by rw [List.length_append, hlk]; rfl
    have hw5 := HW5.out
    rw [hlk1] at hw5
    have hs55 := hk55.size
    have hsW := HK5.out.size
    have h1w := HEa.out.size
    have hbo := HW5.out.block
    rw [hlk1] at hbo
    refine ⟨HK5.out.setCell _ _ (.inl (.inl ⟨by show w.heap.size < w1.heap.size; have := Sa.out; omega, rfl⟩)), .slice a5 (k + 1) d5, _, (fun g => D g ∨ (W0.heap.size ≤ g ∧ g < W.heap.size)), HEZ.out.trans hk55, HB5.out.set 0 _, hw5.keeps hk55 (fun g hg h2 => by have := hbo g hg; unfold OneB at h2; omega), ?_, ?_⟩
    · rw [HTK.out]
      exact HROW.out.mono (fun c x hc => hc.keeps hk55 (fun g hg h2 => by have := HD5.out g hg; unfold OneB at h2; omega))
    · intro g hg
      have h1 := HD5.out g hg
      refine ⟨h1.1, by omega, fun h2 => ?_⟩
      have ho := HO5.out
      rw [hlk1] at ho
      unfold Own at h2
      rw [h2] at ho
      rcases ho with ho | ho
      · exact h1.2.2.1 ho.symm
      · have := Option.some.inj ho; omega
  · rintro W ⟨v, cs, D, hh⟩ hm
    obtain ⟨c0, z0⟩ := hh.box.reads
    have l0 := hh.box.lt
    have HH := Lib.hid hh
    have HM := Lib.hid hm
    clear hh hm hsz
    gi_wp2_with fail
    refine leaves_marks [w1.heap.size] _ (by simp) ?_ ?_
    · intro D' hD
      obtain rfl : D' = w1.heap.size := by simpa using hD
      exact HM.out
    · intro w' hk
      have hrow := HH.out.row
      rw [List.take_length] at hrow
      have hkp : Keeps (OneB w.heap.size) w1 W := HH.out.keep
      have hE : Ext w w' := ((HEa.out).then hkp (fun i hi h => by unfold OneB at h; omega)).then hk (fun i hi h => by have := HEa.out.size; simp at h; omega)
      refine ⟨v, ?_, v, rfl, ?_, hE⟩
      · simp [results, Try.results51, go_sem]
      · have h1W := hkp.size
        have hw := HEa.out.size
        have hww := hk.size
        have hb := HH.out.win.block
        have hwin := HH.out.win.keeps hk (fun g hg h2 => by have := hb g hg; simp at h2; omega)
        exact items_of_win (A' := fun k => w.heap.size ≤ k ∧ k < w'.heap.size) hwin rfl (hrow.mono (En' := ItemEn w' D) (fun c x hc => hc.keeps hk (fun g hg h2 => by have := HH.out.dom g hg; simp at h2; omega))) (fun g hg => by have := HH.out.dom g hg; omega) (fun g h1 h2 => by omega)

theorem collect_seq {A : Nat → Prop} (w : World) (bx : Nat) (l : List It) (h : SeqAt w A bx l) (hl : l.length ≤ 1000) (hx : ∀ x ∈ l, x.bytes.length ≤ 1000000) (hA : ∀ k, A k → k < w.heap.size) (hbx : bx < w.heap.size) :
    Calls Try.prog 48 #[.func (.func 41) #[] #[.pointer (some ⟨bx, 0, none⟩)]] w fun e w' =>
      ∃ v, e = .returned v ∧ SlV (fun k => w.heap.size ≤ k ∧ k < w'.heap.size) (ItemAt w' (fun k => w.heap.size ≤ k ∧ k < w'.heap.size)) 3 v l ∧ Ext w w' := by
  have HS := Lib.hid h
  have HX := Lib.hid hx
  have HA := Lib.hid hA
  clear h hx hA
  go_enter Try.func48, Try.ntmps48
  go_wp2_with fail
  refine (append_seq w bx l HS.out hl HX.out HA.out hbx).mono ?_
  rintro e w' ⟨v, rfl, hs, hE⟩
  have HS2 := Lib.hid hs
  have HE := Lib.hid hE
  clear hs hE
  go_wp2_with fail
  go_ret
  exact ⟨v, rfl, HS2.out, HE.out⟩
end Go.Proofs.Ytocjnieehogcbaa
