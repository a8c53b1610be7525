/- ClientFull: for every input the function returns true and what it was given reads as before. No further condition. -/
import Derived.Test.YtoadjbgpfihoiaaGreatDoorFuC
import Derived.Test.YtoadjbgpfihoiaaGreatDoorFuZJ
import Derived.Test.YtoadjbgpfihoiaaGreatDoorTie
import Derived.Test.YtoadjbgpfihoiaaGreatDoorCards
set_option maxRecDepth 100000
namespace Go.Proofs.YtoadjbgpfihoiaaGreatDoor.clientFull
open Go.ChangeShapes Go.WideShapes Go.ChangeAt Go.RowKit
set_option maxRecDepth 100000 in
theorem contract (H : Type) (enc : TypeId × Value → H) (W : World) (base : Nat) (args : Array Value) (ds gs : List (DataW H)) (before : List MemPlace)
 (hval : ∀ (j : Nat) t v, Tryz.f3.params[j]? = some t → args[j]? = some v → Value.okWide Tryz.prog W .any base t v)
 (hW : DataW.Whole enc Tryz.prog Tryz.f3.params.toList Rows.clientFullSpec.vars false W args.toList ds gs before) (HL : Tab W) :
 Calls Tryz.prog 3 args W fun e W' => ∃ v, e = .returned v ∧ Rows.clientFullSpec.post enc Tryz.prog Tryz.f3 false true false false W args v W' := by
 have hW' := hW; obtain ⟨p, q, hA0, hV, rfl, hfz, hnd⟩ := hW; have hA : DataW.TrodAll enc Tryz.prog W 0 (fun _ => true) true Tryz.f3.params.toList args.toList ds p := hA0; rw [Tryz.params3] at hA hval; obtain ⟨v0, vs0, d0, ds0, p0, q0, hargs, rfl, rfl, h0, r0⟩ := trodAll_cons hA; obtain ⟨rfl, rfl, rfl⟩ := trodAll_nil r0; obtain rfl : args = #[v0] := by cases args; simp_all
 obtain ⟨rfl, rfl⟩ := trodVars_none hV; obtain ⟨many, hv0, -, -, w0⟩ := open_int Tryz.underlying3 (hval 0 3 v0 rfl rfl) h0; subst hv0; clear hA0; simp only [List.append_nil] at hW'; have hlt : ∀ x ∈ p0, x.block < W.heap.size := fun x hx => by simpa using hW'.lt x (by simpa using hx)
 refine (full_walk W (tabs_of W HL) many).mono fun e W' ⟨he, hg⟩ => ?_
 subst he
 exact ⟨_, rfl, post_true (pa := p0) (pv := []) hg rfl rfl hW' (fun sp hsp => by
  have e0 := Ext.trod (by kernel_rfl) (of_decide_eq_true (by kernel_rfl)) h0 hg (fun x hx => hlt x (by simp [hx])) sp (fun x hx => hsp x (by simp [hx])); have := trodAll_cons_mk e0 trodAll_mk0; rw [List.append_nil] at this; exact this) (fun _ _ => rfl) (by simp)⟩
theorem witness_row (os : Os) {H : Type} (enc : TypeId × Value → H) :
 (OpenSpec.ofChange Rows.clientFullSpec).preRow enc Tryz.prog Tryz.f3 Rows.clientFullRow.domain false Rows.clientFullRow.laid ((laidWorld os).forCall (fun _ _ => 0) ⟨#[], #[.int .i64 0], []⟩).memory #[.int .i64 0] := by
 have hw : (DataW.whole enc Tryz.prog ((laidWorld os).forCall (fun _ _ => 0) ⟨#[], #[.int .i64 0], []⟩).memory Tryz.f3.params.toList (OpenSpec.ofChange Rows.clientFullSpec).vars false #[Value.int .i64 0].toList 8).isSome = true := by kernel_rfl
 obtain ⟨x, hx⟩ := Option.isSome_iff_exists.1 hw; exact OpenSpec.preRow_of_cond 8 hx rfl (fun k hk => by cases hk) (by kernel_rfl) (laid_met os _)
set_option maxRecDepth 100000 in
theorem lifted (os : Os) (started : os.Started) (H : Type) (enc : TypeId × Value → H) :
 ReturnsInHanded {} Tryz.checked os 3 .any ((OpenSpec.ofChange Rows.clientFullSpec).preRow enc Tryz.prog Tryz.f3 Rows.clientFullRow.domain false Rows.clientFullRow.laid) (Rows.clientFullSpec.post enc Tryz.prog Tryz.f3 false true false false) := by
 refine returnsInHanded_of_row (C := Tryz.checked) (s := OpenSpec.ofChange Rows.clientFullSpec) (F := fun _ _ _ => 0) own started (by kernel_rfl) Tryz.func3
  (witness_row_atRef (enc := enc) (C := Tryz.checked) false (laidWorld os) #[.int .i64 0] rfl (by kernel_rfl) (by kernel_rfl) (by kernel_rfl) (witness_row os enc)) ?_
 intro W base args ds gs before hval hW _ _ _ hL _ _; exact contract H enc W base args ds gs before hval hW hL
theorem said : Rows.ClientFullSaid := by
 refine OpenClaim.holds_of_wide 3 Tryz.f3 rfl rfl rfl rfl rfl rfl rfl ⟨rfl, rfl, rfl, rfl, rfl⟩ rfl rfl rfl rfl rfl (by kernel_rfl) Tryz.func3 clientFull_facts
  (of_decide_eq_true (by kernel_rfl)) (by unfold Func.isWrapper; first | (rw [if_pos (by decide +kernel)]; kernel_rfl) | (rw [if_neg (by decide +kernel)]; exact ⟨rfl, rfl⟩))
  (fun os started H enc F => ?_)
 rw [OpenClaim.pre_eq_preRow]; exact lifted os started H enc
theorem carded : Rows.ClientFullCardSaid :=
 Claim7.holds_tied_plain_at .later [] [.data, .pinned] true (true, "c6a80e381de6fd43f649cbb4013f225040db4c692a4aafc42c418c8972076e24") true
  said (fun _ h => by cases h) (by kernel_rfl) (fun _ h => by cases h) clientFull_row_tie rfl ⟨rfl, rfl⟩ (by kernel_rfl) rfl
  (fun f fn hf hfn => by
   obtain rfl : f = 3 := Option.some.inj ((show Tryz.prog.funcNamed "antiphon/antiphonlaw28.ClientFull" = some 3 by kernel_rfl).symm.trans hf) |>.symm; obtain rfl : fn = Tryz.f3 := (Option.some.inj (Tryz.func3.symm.trans hfn)).symm; refine ⟨by kernel_rfl, fun j t ht => ?_⟩; have hall : (Tryz.f3.params.toList.all fun t => !(Tryz.prog.wantsStandIn t)) = true := by kernel_rfl
   rw [List.all_eq_true] at hall; have := hall t (Array.mem_toList_iff.2 (Array.mem_of_getElem? ht)); have h2 : Tryz.prog.wantsStandIn t = false := by simpa using this
   exact h2)
  (by kernel_rfl)
end Go.Proofs.YtoadjbgpfihoiaaGreatDoor.clientFull
namespace Go.Proofs.YtoadjbgpfihoiaaGreatDoor
theorem clientFull_carded : Rows.ClientFullCardSaid := clientFull.carded
#print axioms clientFull_carded
end Go.Proofs.YtoadjbgpfihoiaaGreatDoor
