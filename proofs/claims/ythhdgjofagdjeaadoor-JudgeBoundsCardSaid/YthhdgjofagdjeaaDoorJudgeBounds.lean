/- JudgeBounds: for every input the function returns true and what it was given reads as before. No further condition. -/
import Derived.Test.YthhdgjofagdjeaaDoorJAC
import Derived.Test.YthhdgjofagdjeaaDoorLift
import Derived.Test.YthhdgjofagdjeaaDoorLaid
import Derived.Test.YthhdgjofagdjeaaDoorTie
import Derived.Test.YthhdgjofagdjeaaDoorCards
set_option linter.unusedVariables false
set_option linter.unusedSimpArgs false
set_option maxRecDepth 10000
namespace Go.Proofs.YthhdgjofagdjeaaDoor.judgeBounds
open Go.ChangeShapes Go.WideShapes Go.ChangeAt Go.RowKit
theorem walk (c wait many : Int) (w : World) :
    Calls Tryd.prog 3 #[.int .i64 c, .int .i64 wait, .int .i64 many] w fun e w' => e = .returned (.bool true) ∧ Ext w w' := by
  obtain ⟨p, q, hpq⟩ : ∃ p q : Int, boundR c wait many = .tuple #[.int .i64 p, .int .i64 q] := by
    unfold boundR
    split
    · exact ⟨_, _, rfl⟩
    · exact ⟨_, _, rfl⟩
  have HP := Lib.hid hpq
  clear hpq
  have HM := Lib.hid (Mem.start0 w)
  go_enter Tryd.func3, Tryd.ntmps3
  have fM := HM.out.facts
  simp only [List.filterMap_cons, List.filterMap_nil, cellsR_tag, winR_tag, factsL, apartL, and_true, List.cons_append, List.nil_append] at fM
  go_wp2_with fail
  all_goals clear fM
  refine (bound_any _ c wait many).mono ?_
  rintro r w1 ⟨rfl, hE⟩
  rw [HP.out]
  replace HM := Lib.hid (HM.out.ext hE)
  clear hE
  have fM := HM.out.facts
  simp only [List.filterMap_cons, List.filterMap_nil, cellsR_tag, winR_tag, factsL, apartL, and_true, List.cons_append, List.nil_append] at fM
  go_wp2_with fail
  all_goals clear fM
  refine (rbound_any _ c wait many).mono ?_
  rintro r w2 ⟨rfl, hE⟩
  rw [HP.out]
  replace HM := Lib.hid (HM.out.ext hE)
  clear hE
  have fM := HM.out.facts
  simp only [List.filterMap_cons, List.filterMap_nil, cellsR_tag, winR_tag, factsL, apartL, and_true, List.cons_append, List.nil_append] at fM
  go_wp2_with fail
  all_goals clear fM
  refine (num_any _ _).mono ?_
  rintro r wq ⟨rfl, hwq⟩
  rw [hwq]
  clear hwq wq
  have fM := HM.out.facts
  simp only [List.filterMap_cons, List.filterMap_nil, cellsR_tag, winR_tag, factsL, apartL, and_true, List.cons_append, List.nil_append] at fM
  go_wp2_with fail
  all_goals clear fM
  refine (works_any _).mono ?_
  rintro r w3 ⟨rfl, hE⟩
  replace HM := Lib.hid (HM.out.ext hE)
  clear hE
  have fM := HM.out.facts
  simp only [List.filterMap_cons, List.filterMap_nil, cellsR_tag, winR_tag, factsL, apartL, and_true, List.cons_append, List.nil_append] at fM
  go_wp2_with fail
  all_goals clear fM
  go_ret
  exact ⟨rfl, HM.out.extTo⟩
theorem contract (H : Type) (enc : TypeId × Value → H) (W : World) (base : Nat) (args : Array Value) (ds gs : List (DataW H)) (before : List MemPlace)
    (hval : ∀ (j : Nat) t v, Tryd.f3.params[j]? = some t → args[j]? = some v → Value.okWide Tryd.prog W .any base t v)
    (hW : DataW.Whole enc Tryd.prog Tryd.f3.params.toList Rows.judgeBoundsSpec.vars false W args.toList ds gs before) :
    Calls Tryd.prog 3 args W fun e W' => ∃ v, e = .returned v ∧ Rows.judgeBoundsSpec.post enc Tryd.prog Tryd.f3 false true false false W args v W' := by
  have hW' := hW
  obtain ⟨p, q, hA0, hV, rfl, hfz, hnd⟩ := hW
  have hA : DataW.TrodAll enc Tryd.prog W 0 (fun _ => true) true Tryd.f3.params.toList args.toList ds p := hA0
  rw [Tryd.params3] at hA hval
  obtain ⟨v0, vs0, d0, ds0, p0, q0, hargs, rfl, rfl, h0, r0⟩ := trodAll_cons hA
  obtain ⟨v1, vs1, d1, ds1, p1, q1, rfl, rfl, rfl, h1, r1⟩ := trodAll_cons r0
  obtain ⟨v2, vs2, d2, ds2, p2, q2, rfl, rfl, rfl, h2, r2⟩ := trodAll_cons r1
  obtain ⟨rfl, rfl, rfl⟩ := trodAll_nil r2
  obtain rfl : args = #[v0, v1, v2] := by cases args; simp_all
  obtain ⟨rfl, rfl⟩ := trodVars_none hV
  obtain ⟨a0, rfl, rfl, rfl, w0⟩ := open_int Tryd.underlying3 (hval 0 _ v0 rfl rfl) h0
  obtain ⟨a1, rfl, rfl, rfl, w1⟩ := open_int Tryd.underlying2 (hval 1 _ v1 rfl rfl) h1
  obtain ⟨a2, rfl, rfl, rfl, w2⟩ := open_int Tryd.underlying3 (hval 2 _ v2 rfl rfl) h2
  clear hA0
  simp only [List.append_nil] at hW'
  refine (walk a0 a1 a2 W).mono fun e W' ⟨he, hg⟩ => ?_
  subst he
  exact ⟨_, rfl, post_true (pa := []) (pv := []) hg rfl rfl hW' (fun sp _ => (trodAll_cons_mk (shut_int Tryd.underlying3 w0) (trodAll_cons_mk (shut_int Tryd.underlying2 w1) (trodAll_cons_mk (shut_int Tryd.underlying3 w2) trodAll_mk0)))) (fun _ _ => rfl) rfl⟩
theorem witness_row (os : Os) {H : Type} (enc : TypeId × Value → H) :
    (OpenSpec.ofChange Rows.judgeBoundsSpec).preRow enc Tryd.prog Tryd.f3 Rows.judgeBoundsRow.domain false Rows.judgeBoundsRow.laid ((laidWorld os).forCall (fun _ _ => 0) ⟨#[], #[.int .i64 0, .int .i64 0, .int .i64 0], []⟩).memory #[.int .i64 0, .int .i64 0, .int .i64 0] := by
  have hw : (DataW.whole enc Tryd.prog ((laidWorld os).forCall (fun _ _ => 0) ⟨#[], #[.int .i64 0, .int .i64 0, .int .i64 0], []⟩).memory Tryd.f3.params.toList (OpenSpec.ofChange Rows.judgeBoundsSpec).vars false #[Value.int .i64 0, .int .i64 0, .int .i64 0].toList 8).isSome = true := by kernel_rfl
  obtain ⟨x, hx⟩ := Option.isSome_iff_exists.1 hw
  exact OpenSpec.preRow_of_cond 8 hx rfl (fun k hk => by cases hk) (by kernel_rfl) (laid_met os _)
set_option maxRecDepth 100000 in
theorem lifted (os : Os) (started : os.Started) (H : Type) (enc : TypeId × Value → H) :
    ReturnsInHanded {} Tryd.checked os 3 .any ((OpenSpec.ofChange Rows.judgeBoundsSpec).preRow enc Tryd.prog Tryd.f3 Rows.judgeBoundsRow.domain false Rows.judgeBoundsRow.laid) (Rows.judgeBoundsSpec.post enc Tryd.prog Tryd.f3 false true false false) := by
  refine returnsInHanded_of_row (C := Tryd.checked) (s := OpenSpec.ofChange Rows.judgeBoundsSpec) (F := fun _ _ _ => 0) own started (by kernel_rfl) Tryd.func3
    (witness_row_atRef (enc := enc) (C := Tryd.checked) false (laidWorld os) #[.int .i64 0, .int .i64 0, .int .i64 0] rfl (by kernel_rfl) (by kernel_rfl) (by kernel_rfl) (witness_row os enc)) ?_
  intro W base args ds gs before hval hW _ _ _ _ _ _
  exact contract H enc W base args ds gs before hval hW
theorem said : Rows.JudgeBoundsSaid := by
  refine OpenClaim.holds_of_wide 3 Tryd.f3 rfl rfl rfl rfl rfl rfl rfl ⟨rfl, rfl, rfl, rfl, rfl⟩ rfl rfl rfl rfl rfl (by kernel_rfl) Tryd.func3 (by kernel_rfl)
    (of_decide_eq_true (by kernel_rfl)) (by unfold Func.isWrapper; first | (rw [if_pos (by decide +kernel)]; kernel_rfl) | (rw [if_neg (by decide +kernel)]; exact ⟨rfl, rfl⟩))
    (fun os started H enc F => ?_)
  rw [OpenClaim.pre_eq_preRow]
  exact lifted os started H enc
theorem carded : Rows.JudgeBoundsCardSaid :=
  Claim7.holds_tied_plain_at .later [] [.data, .pinned] true (true, "d30a88063cc45bb594a31836deebda8a35b1838f4e24d9257d1be4e8b094926a") true
    said (fun _ h => by cases h) (by kernel_rfl) (fun _ h => by cases h) judgeBounds_row_tie rfl ⟨rfl, rfl⟩ (by kernel_rfl) rfl
    (fun f fn hf hfn => by
      obtain rfl : f = 3 := Option.some.inj ((show Tryd.prog.funcNamed "antiphon/antiphonlaw30.JudgeBounds" = some 3 by kernel_rfl).symm.trans hf) |>.symm
      obtain rfl : fn = Tryd.f3 := (Option.some.inj (Tryd.func3.symm.trans hfn)).symm
      refine ⟨by kernel_rfl, fun j t ht => ?_⟩
      have hall : (Tryd.f3.params.toList.all fun t => !(Tryd.prog.wantsStandIn t)) = true := by kernel_rfl
      rw [List.all_eq_true] at hall
      have := hall t (Array.mem_toList_iff.2 (Array.mem_of_getElem? ht))
      have h2 : Tryd.prog.wantsStandIn t = false := by simpa using this
      exact h2)
    (by kernel_rfl)
end Go.Proofs.YthhdgjofagdjeaaDoor.judgeBounds
namespace Go.Proofs.YthhdgjofagdjeaaDoor
theorem judgeBounds_carded : Rows.JudgeBoundsCardSaid := judgeBounds.carded
#print axioms judgeBounds_carded
end Go.Proofs.YthhdgjofagdjeaaDoor
