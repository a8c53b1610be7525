/- FramesBack: for every input the function returns true and what it was given reads as before. No further condition. -/
import Derived.Test.YtcfgnbbiljohjaaGreatDoorPkP
import Derived.Test.YtcfgnbbiljohjaaGreatDoorTie
import Derived.Test.YtcfgnbbiljohjaaGreatDoorCards
set_option linter.unusedVariables false
set_option linter.unusedSimpArgs false
set_option maxRecDepth 100000
namespace Go.Proofs.YtcfgnbbiljohjaaGreatDoor
open Go.RowKit
section
variable {H : Type} {enc : TypeId × Value → H} {w : World}
theorem open_sds {v : Value} {d : DataW H} {p : List MemPlace} {b : Nat} (hv : Value.okWide Tryz.prog w .any b 57 v) (h : DataW.Trod enc Tryz.prog w 0 (fun _ => true) true 57 v d p) :
    ∃ l : List Sd, Sds w (Old w) v l := by
  obtain ⟨fuel, hf⟩ := h
  obtain ⟨l, x, h1, h2, -⟩ := rd_slice 11 Tryz.underlying57 cellsSd (by decide) rd_sd fuel _ _ hf
  rw [ok_slice Tryz.underlying57 hv] at h1
  cases h1
  exact ⟨l, h2⟩
end
end Go.Proofs.YtcfgnbbiljohjaaGreatDoor
namespace Go.Proofs.YtcfgnbbiljohjaaGreatDoor.framesBack
open Go.ChangeShapes Go.WideShapes Go.ChangeAt Go.RowKit
set_option maxRecDepth 100000 in
theorem contract (H : Type) (enc : TypeId × Value → H) (W : World) (base : Nat) (args : Array Value) (ds gs : List (DataW H)) (before : List MemPlace)
    (hval : ∀ (j : Nat) t v, Tryz.f8.params[j]? = some t → args[j]? = some v → Value.okWide Tryz.prog W .any base t v)
    (hW : DataW.Whole enc Tryz.prog Tryz.f8.params.toList Rows.framesBackSpec.vars false W args.toList ds gs before) (HL : Tab W) :
    Calls Tryz.prog 8 args W fun e W' => ∃ v, e = .returned v ∧ Rows.framesBackSpec.post enc Tryz.prog Tryz.f8 false true false false W args v W' := by
  have hW' := hW
  obtain ⟨p, q, hA0, hV, rfl, hfz, hnd⟩ := hW
  have hA : DataW.TrodAll enc Tryz.prog W 0 (fun _ => true) true Tryz.f8.params.toList args.toList ds p := hA0
  rw [Tryz.params8] at hA hval
  obtain ⟨v0, vs0, d0, ds0, p0, q0, hargs, rfl, rfl, h0, r0⟩ := trodAll_cons hA
  obtain ⟨v1, vs1, d1, ds1, p1, q1, rfl, rfl, rfl, h1, r1⟩ := trodAll_cons r0
  obtain ⟨rfl, rfl, rfl⟩ := trodAll_nil r1
  obtain rfl : args = #[v0, v1] := by cases args; simp_all
  obtain ⟨rfl, rfl⟩ := trodVars_none hV
  obtain ⟨ls, hl⟩ := open_sds (hval 0 57 v0 rfl rfl) h0
  obtain ⟨l, hb⟩ := open_bytes (hval 1 30 v1 rfl rfl) h1
  clear hA0
  simp only [List.append_nil] at hW'
  have hlt : ∀ x ∈ p0 ++ p1, x.block < W.heap.size := fun x hx => by simpa using hW'.lt x (by simpa using hx)
  refine (back_walk W v0 v1 ls l hl hb (tabs_of W HL)).mono fun e W' ⟨he, hg⟩ => ?_
  subst he
  exact ⟨_, rfl, post_true (pa := p0 ++ p1) (pv := []) hg rfl rfl hW' (fun sp hsp => by
    have e0 := Ext.trod (by kernel_rfl) (of_decide_eq_true (by kernel_rfl)) h0 hg (fun x hx => hlt x (by simp [hx])) sp (fun x hx => hsp x (by simp [hx]))
    have e1 := Ext.trod (by kernel_rfl) (of_decide_eq_true (by kernel_rfl)) h1 hg (fun x hx => hlt x (by simp [hx])) sp (fun x hx => hsp x (by simp [hx]))
    have := trodAll_cons_mk e0 (trodAll_cons_mk e1 trodAll_mk0)
    rw [List.append_nil] at this
    exact this) (fun _ _ => rfl) (by simp)⟩
theorem witness_row (os : Os) {H : Type} (enc : TypeId × Value → H) :
    (OpenSpec.ofChange Rows.framesBackSpec).preRow enc Tryz.prog Tryz.f8 Rows.framesBackRow.domain false Rows.framesBackRow.laid ((laidWorld os).forCall (fun _ _ => 0) ⟨#[], #[.slice none 0 0, .slice none 0 0], []⟩).memory #[.slice none 0 0, .slice none 0 0] := by
  have hw : (DataW.whole enc Tryz.prog ((laidWorld os).forCall (fun _ _ => 0) ⟨#[], #[.slice none 0 0, .slice none 0 0], []⟩).memory Tryz.f8.params.toList (OpenSpec.ofChange Rows.framesBackSpec).vars false #[Value.slice none 0 0, .slice none 0 0].toList 8).isSome = true := by kernel_rfl
  obtain ⟨x, hx⟩ := Option.isSome_iff_exists.1 hw
  exact OpenSpec.preRow_of_cond 8 hx rfl (fun k hk => by cases hk) (by kernel_rfl) (laid_met os _)
set_option maxRecDepth 100000 in
theorem lifted (os : Os) (started : os.Started) (H : Type) (enc : TypeId × Value → H) :
    ReturnsInHanded {} Tryz.checked os 8 .any ((OpenSpec.ofChange Rows.framesBackSpec).preRow enc Tryz.prog Tryz.f8 Rows.framesBackRow.domain false Rows.framesBackRow.laid) (Rows.framesBackSpec.post enc Tryz.prog Tryz.f8 false true false false) := by
  refine returnsInHanded_of_row (C := Tryz.checked) (s := OpenSpec.ofChange Rows.framesBackSpec) (F := fun _ _ _ => 0) own started (by kernel_rfl) Tryz.func8
    (witness_row_atRef (enc := enc) (C := Tryz.checked) false (laidWorld os) #[.slice none 0 0, .slice none 0 0] rfl (by kernel_rfl) (by kernel_rfl) (by kernel_rfl) (witness_row os enc)) ?_
  intro W base args ds gs before hval hW _ _ _ hL _ _
  exact contract H enc W base args ds gs before hval hW hL
theorem said : Rows.FramesBackSaid := by
  refine OpenClaim.holds_of_wide 8 Tryz.f8 rfl rfl rfl rfl rfl rfl rfl ⟨rfl, rfl, rfl, rfl, rfl⟩ rfl rfl rfl rfl rfl (by kernel_rfl) Tryz.func8 (by kernel_rfl)
    (of_decide_eq_true (by kernel_rfl)) (by unfold Func.isWrapper; first | (rw [if_pos (by decide +kernel)]; kernel_rfl) | (rw [if_neg (by decide +kernel)]; exact ⟨rfl, rfl⟩))
    (fun os started H enc F => ?_)
  rw [OpenClaim.pre_eq_preRow]
  exact lifted os started H enc
theorem carded : Rows.FramesBackCardSaid :=
  Claim7.holds_tied_plain_at .later [] [.data, .pinned] true (true, "322463193bf0af8164cd50e61f0b39f72a8c9d59f6e17050c62484900d1474b1") true
    said (fun _ h => by cases h) (by kernel_rfl) (fun _ h => by cases h) framesBack_row_tie rfl ⟨rfl, rfl⟩ (by kernel_rfl) rfl
    (fun f fn hf hfn => by
      obtain rfl : f = 8 := Option.some.inj ((show Tryz.prog.funcNamed "antiphon/antiphonlaw24.FramesBack" = some 8 by kernel_rfl).symm.trans hf) |>.symm
      obtain rfl : fn = Tryz.f8 := (Option.some.inj (Tryz.func8.symm.trans hfn)).symm
      refine ⟨by kernel_rfl, fun j t ht => ?_⟩
      have hall : (Tryz.f8.params.toList.all fun t => !(Tryz.prog.wantsStandIn t)) = true := by kernel_rfl
      rw [List.all_eq_true] at hall
      have := hall t (Array.mem_toList_iff.2 (Array.mem_of_getElem? ht))
      have h2 : Tryz.prog.wantsStandIn t = false := by simpa using this
      exact h2)
    (by kernel_rfl)
end Go.Proofs.YtcfgnbbiljohjaaGreatDoor.framesBack
namespace Go.Proofs.YtcfgnbbiljohjaaGreatDoor
theorem framesBack_carded : Rows.FramesBackCardSaid := framesBack.carded
#print axioms framesBack_carded
end Go.Proofs.YtcfgnbbiljohjaaGreatDoor
