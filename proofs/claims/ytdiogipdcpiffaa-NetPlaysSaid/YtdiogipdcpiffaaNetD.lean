/- Rows of messages: append, Clone, Grow and Concat of them. Conditions: they lie as 'ParsV' says. -/
import Derived.Test.YtdiogipdcpiffaaNetC
set_option linter.unusedVariables false
set_option maxHeartbeats 400000
set_option maxRecDepth 10000
namespace Go.Proofs.Ytdiogipdcpiffaa
open Go.RowKit

theorem append_ways {A : Nat → Prop} (w : World) (base : Nat) (v : Value) (cs : List Value) (l : List Pc) (ty : TypeId) (hw : Win w base 4 v l.length cs) (x : Value) (news : List Value) (l' : List Pc) (hsrc : SrcCells w x l'.length news) (hr' : RowOf 4 (ParEn w A) news l')
    (hl : l.length + l'.length ≤ 1000000) (hb : base ≤ w.heap.size) :
    ∃ v' w', (Builtin.append_ #[69, 69] ty #[v, x]).run Try.prog w = .ok v' w' ∧ Win w' base 4 v' (l ++ l').length (cs ++ news) ∧ Keeps (Own v) w w' ∧ (v'.ownBlock = v.ownBlock ∨ v'.ownBlock = some w.heap.size) := by
  obtain ⟨i0, hi, hz0, hz1, hz2⟩ := info_parts infoWay
  obtain ⟨v', w', h1, h2, h3, h4⟩ := run_append_win (P := Try.prog) w base 69 69 ty 81 i0 _ 4 48 Try.underlying69 hi hz0 hz1 hz2 rfl v l.length cs hw
    x l'.length news (hsrc.toSrc Try.underlying69 hr'.length (hr'.all fun c x hc => hc.one)) (by simp [maxLen]; omega) (by omega) hb
  exact ⟨v', w', h1, by rw [List.length_append]; exact h2, h3, h4⟩
theorem append_pars {A : Nat → Prop} (w : World) (base : Nat) (v : Value) (cs : List Value) (l : List Pc) (ty : TypeId) (hw : Win w base 4 v l.length cs) (x : Value) (news : List Value) (l' : List Pc) (hsrc : SrcCells w x l'.length news) (hr' : RowOf 4 (ParEn w A) news l')
    (hl : l.length + l'.length ≤ 1000000) (hb : base ≤ w.heap.size) :
    ∃ v' w', (Builtin.append_ #[38, 38] ty #[v, x]).run Try.prog w = .ok v' w' ∧ Win w' base 4 v' (l ++ l').length (cs ++ news) ∧ Keeps (Own v) w w' ∧ (v'.ownBlock = v.ownBlock ∨ v'.ownBlock = some w.heap.size) := by
  obtain ⟨i0, hi, hz0, hz1, hz2⟩ := info_parts infoPar
  obtain ⟨v', w', h1, h2, h3, h4⟩ := run_append_win (P := Try.prog) w base 38 38 ty 50 i0 _ 4 48 Try.underlying38 hi hz0 hz1 hz2 rfl v l.length cs hw
    x l'.length news (hsrc.toSrc Try.underlying38 hr'.length (hr'.all fun c x hc => hc.one)) (by simp [maxLen]; omega) (by omega) hb
  exact ⟨v', w', h1, by rw [List.length_append]; exact h2, h3, h4⟩
theorem eq_sliceW (w : World) (p : Addr) (n c : Nat) : (binOp .eql 69 (.slice (some p) n c) (.slice none 0 0)).run Try.prog w = .ok (.bool false) w := by kernel_rfl
theorem eq_noneW (w : World) (c : Nat) : (binOp .eql 69 (.slice none 0 c) (.slice none 0 0)).run Try.prog w = .ok (.bool true) w := by kernel_rfl
theorem clone_ways {A : Nat → Prop} (w : World) (v : Value) (cs : List Value) (l : List Pc) (h : Win w 0 4 v l.length cs) (hr : RowOf 4 (ParEn w A) cs l) (hl : l.length ≤ 4096) (hA : ∀ k, A k → k < w.heap.size) :
    Calls Try.prog 44 #[v] w fun e w' => ∃ v' cs', e = .returned v' ∧ Win w' w.heap.size 4 v' l.length cs' ∧ RowOf 4 (ParEn w' A) cs' l ∧ Ext w w' := by
  obtain ⟨a, c, rfl⟩ := h.len
  cases a with
  | none =>
    have h0 : l = [] := by
      rcases h.2 with ⟨h1, h2⟩ | ⟨g, o, cap, h1, _⟩
      · exact List.eq_nil_of_length_eq_zero h2
      · cases h1
    subst h0
    clear h hr
    have hq := eq_noneW w c
    simp only [List.length_nil]
    go_enter Try.func44, Try.ntmps44
    go_wp2_with fail
    go_ret
    exact ⟨_, [], rfl, Win.nil _ _ _, RowOf.nil, Keeps.refl _ _⟩
  | some p =>
    have e0 : Ext w (w.alloc (Obj.cells #[] 81)) := (Keeps.refl _ _).alloc _
    have hrow := hr.mono fun c p hc => hc.keeps e0 (fun _ _ => noB _)
    have hsrc := (h.ext e0).src
    obtain ⟨v1, w1, hr1, hwin1, hk1, ho1⟩ := append_ways (A := A) (w.alloc (Obj.cells #[] 81)) w.heap.size (.slice (some ⟨w.heap.size, 0, none⟩) 0 0) [] [] 69 (Win.empty (Nat.le_refl _) (by simp)) _ cs l hsrc hrow (by simp; omega) (by simp)
    simp only [List.nil_append] at hwin1
    have e1 : Ext w w1 := e0.then hk1 (fun i hi h2 => by have := own_eq h2; omega)
    have HW := Lib.hid hwin1
    have HE := Lib.hid e1
    have HR := Lib.hid (hrow.mono fun c p h => h.keeps hk1 (fun k hk h2 => by have := hA k hk; have := own_eq h2; omega))
    have hq := eq_sliceW w p l.length c
    clear h hr e0 hwin1 hk1 ho1 e1 hrow hsrc hA
    go_enter Try.func44, Try.ntmps44
    go_wp2_with (at_builtin; refine wpList_append_ran rfl _ _ hr1 rfl rfl rfl ?_)
    go_ret
    exact ⟨_, _, rfl, HW.out, HR.out, HE.out⟩

/-- append(nil, make([]E, n)...) -/
theorem run_append_zeros4 {P : Program} (w : World) (t ti ty e : TypeId) (i : TypeInfo) (z : Value) (ht : P.underlying t = some (.slice e)) (hti : P.underlying ti = some (.int .i64)) (hi : P.info? e = some i) (hz : i.zero = some z)
    (hsize : i.size = 4) (hzs : z.cells.size = 4) (hby : i.bytes = 48) (n : Nat) (h0 : 0 < n) (hn : n ≤ 1000000) :
    ∃ cap w', (Builtin.append_ #[t, ti] ty #[.slice none 0 0, .int .i64 (n : Int)]).run P w = .ok (.slice (some ⟨w.heap.size, 0, none⟩) n cap) w' ∧
      w'.ownsRow w.heap.size e 4 (.slice (some ⟨w.heap.size, 0, none⟩) 0 cap) 0 [] ∧ w.grownBy w' none ∧ 0 < cap := by
  have hw : IntKind.i64.wrap (n : Int) = n := IntWalk.i64_in _ (by omega)
  have n1 : ¬ ((n : Int) < 0) := by omega
  have n2 : ¬ ((n : Int) * 48 > 2 ^ 48) := by omega
  have n2' : ¬ (281474976710656 < (n : Int) * 48) := by omega
  have n3 : ¬ (9223372036854775807 < (n : Int)) := by omega
  have h48' : ¬ (281474976710656 < Builtin.nextslicecap n 0 * 48) := by rw [nextslicecap_zero h0]; omega
  have hnz : n ≠ 0 := by omega
  have hge := grownCap_ge w n 0 e
  refine ⟨grownCap w n 0 e, w.drew.alloc (.cells (Builtin.zeroCells z.cells n ++ Builtin.zeroCells z.cells (grownCap w n 0 e - n)) e), ?_, ?_, ⟨rfl, rfl, rfl, by simp, fun k hk _ => Below.heap_alloc w.drew _ k hk⟩, by omega⟩
  · simp [Builtin.append_, run_underlying ht, run_underlying hti, sizeOf, typeInfo, zeroValue, hi, hz, hw, asInt, asIntOf, n1, n2', n3, hby, hsize, h48', hnz, Builtin.firstCells, Question.forced, newRow, grownCap]
    intro h; omega
  · refine World.ownsRow_made w.drew _ _ (Nat.le_refl _) (grownCap_le_maxLen w n 0 e (by simp [maxLen]; omega)) ?_
    simp [size_zeroCells, hzs]; omega
theorem grow_ways (n : Nat) (w : World) (hn : n ≤ 1000000) :
    Calls Try.prog 61 #[.slice none 0 0, .int .i64 (n : Int)] w fun e w' =>
      ∃ v', e = .returned v' ∧ Win w' w.heap.size 4 v' 0 [] ∧ Ext w w' := by
  obtain ⟨i0, hi, hz0, hz1, hz2⟩ := info_parts infoWay
  rcases Nat.eq_zero_or_pos n with h0 | h0
  · subst h0
    go_enter Try.func61, Try.ntmps61
    go_wp2
    go_ret
    exact ⟨_, rfl, Win.nil _ _ _, Keeps.refl _ _⟩
  · obtain ⟨cap, w', hr, ho, hg, hc⟩ := run_append_zeros4 (P := Try.prog) w 69 3 69 81 i0 _ Try.underlying69 Try.underlying3 hi hz0 hz1 rfl hz2 n h0 hn
    have hc0 : (cap = 0) = False := by simp; omega
    have H := Lib.hid (Win.of_owns ho)
    have HG : Hid (w.grownBy w' none) := hg
    clear ho hg
    go_enter Try.func61, Try.ntmps61
    go_wp2_with (at_builtin; refine wpList_append_ran rfl _ _ hr rfl rfl rfl ?_)
    go_ret
    exact ⟨_, rfl, H.out, Keeps.grown (Keeps.refl _ _) HG.out (fun k e => by cases e)⟩
set_option maxHeartbeats 1000000 in
theorem concat_ways {A : Nat → Prop} (w : World) (q : Nat) (v1 v2 : Value) (n1 n2 : List Value) (l1 l2 : List Pc) (hq : Box w q 69 [v1, v2]) (h1 : Win w 0 4 v1 l1.length n1) (r1 : RowOf 4 (ParEn w A) n1 l1) (h2 : Win w 0 4 v2 l2.length n2) (r2 : RowOf 4 (ParEn w A) n2 l2) (hl : l1.length + l2.length ≤ 4096) (hA : ∀ k, A k → k < w.heap.size) :
    Calls Try.prog 40 #[.slice (some ⟨q, 0, none⟩) 2 2] w fun e w' => ∃ v' cs, e = .returned v' ∧ Win w' w.heap.size 4 v' (l1 ++ l2).length cs ∧ RowOf 4 (ParEn w' A) cs (l1 ++ l2) ∧ Ext w w' := by
  obtain ⟨a1, c1, rfl⟩ := h1.len
  obtain ⟨a2, c2, rfl⟩ := h2.len
  have hqw := hq.lt
  have HV2w := fun g hg => (h2.block g hg).2
  have HQ := Lib.hid hq
  have HV1 := Lib.hid h1
  have HV2 := Lib.hid h2
  have HR1 := Lib.hid r1
  have HR2 := Lib.hid r2
  have HA := Lib.hid hA
  have hsum : ((l1.length : Int) + (l2.length : Int)) = ((l1.length + l2.length : Nat) : Int) := by omega
  have HS := Lib.hid hsum
  clear hq h1 h2 hA hsum r1 r2
  obtain ⟨cHQ, zHQ⟩ := HQ.out.reads
  have lHQ := HQ.out.lt
  go_enter Try.func40, Try.ntmps40
  go_wp2_with fail
  refine wp_loop_rounds 3 ?_
  rw [rounds_succ]
  go_wp2_with fail
  rw [rounds_succ]
  go_wp2_with fail
  rw [rounds_succ]
  go_wp2_with fail
  rw [HS.out]
  refine (grow_ways _ w (by omega)).mono ?_
  rintro e w1 ⟨v', rfl, ho, hE⟩
  have HO := Lib.hid ho
  have HE1 := Lib.hid hE
  replace HQ := Lib.hid (HQ.out.ext hE)
  replace HV1 := Lib.hid (HV1.out.ext hE)
  replace HV2 := Lib.hid (HV2.out.ext hE)
  clear ho hE
  clear cHQ zHQ lHQ
  obtain ⟨cHQ, zHQ⟩ := HQ.out.reads
  have lHQ := HQ.out.lt
  have h01 := HE1.out.size
  have hrow1 := HR1.out.mono fun c p hc => hc.keeps HE1.out (fun _ _ => noB _)
  have hsrc1 := HV1.out.src
  obtain ⟨v3, w3, hr3, hwin3, hk3, ho3⟩ := append_ways (A := A) w1 w.heap.size v' [] [] 69 HO.out _ n1 l1 hsrc1 hrow1 (by simp; omega) h01
  simp only [List.nil_append] at hwin3
  have hk3' : ∀ i, i < w.heap.size → ¬ Own v' i := fun i hi h => by have := HO.out.block i h; omega
  have HR3 := Lib.hid (hrow1.mono fun c p h => h.keeps hk3 (fun k hk h2 => hk3' k (HA.out k hk) h2))
  have HE3 : Hid (Ext w w3) := Lib.hid (HE1.out.then hk3 (fun i hi h => (hk3' i hi h).elim))
  have HW3 := Lib.hid hwin3
  have HQ3 := Lib.hid (HQ.out.keeps hk3 (hk3' q hqw))
  have HV3 := Lib.hid (HV2.out.keeps hk3 (fun g hg => hk3' g (HV2w g hg)))
  clear hrow1 hsrc1 hwin3 hk3 ho3
  go_wp2_with fail
  refine wp_loop_rounds 3 ?_
  rw [rounds_succ]
  go_wp2_with (at_builtin; refine wpList_append_ran rfl _ _ hr3 rfl rfl rfl ?_)
  clear hr3
  clear cHQ zHQ lHQ
  obtain ⟨cHQ3, zHQ3⟩ := HQ3.out.reads
  have lHQ3 := HQ3.out.lt
  have h13 := HE3.out.size
  have hrow2 := HR2.out.mono fun c p hc => hc.keeps HE3.out (fun _ _ => noB _)
  have hsrc2 := HV3.out.src
  obtain ⟨v4, w4, hr4, hwin4, hk4, ho4⟩ := append_ways (A := A) w3 w.heap.size v3 n1 l1 69 HW3.out _ n2 l2 hsrc2 hrow2 (by omega) h13
  have hk4' : ∀ i, i < w.heap.size → ¬ Own v3 i := fun i hi h => by have := HW3.out.block i h; omega
  have HR4 := Lib.hid (RowOf.append (HR3.out.mono fun c p h => h.keeps hk4 (fun k hk h2 => hk4' k (HA.out k hk) h2)) (hrow2.mono fun c p h => h.keeps hk4 (fun k hk h2 => hk4' k (HA.out k hk) h2)))
  have HE4 : Hid (Ext w w4) := Lib.hid (HE3.out.then hk4 (fun i hi h => (hk4' i hi h).elim))
  have HW4 := Lib.hid hwin4
  clear hrow2 hsrc2 hwin4 hk4 ho4
  rw [rounds_succ]
  go_wp2_with (at_builtin; refine wpList_append_ran rfl _ _ hr4 rfl rfl rfl ?_)
  clear hr4
  rw [rounds_succ]
  go_wp2_with fail
  go_ret
  exact ⟨_, _, rfl, HW4.out, HR4.out, HE4.out⟩
end Go.Proofs.Ytdiogipdcpiffaa
