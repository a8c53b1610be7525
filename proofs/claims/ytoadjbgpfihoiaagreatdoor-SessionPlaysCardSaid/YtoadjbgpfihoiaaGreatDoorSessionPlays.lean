/- SessionPlays: for every input the function returns true and what it was given reads as before. No further condition. -/
import Derived.Test.YtoadjbgpfihoiaaGreatDoorPlC
import Derived.Test.YtoadjbgpfihoiaaGreatDoorPlZX
import Derived.Test.YtoadjbgpfihoiaaGreatDoorTie
import Derived.Test.YtoadjbgpfihoiaaGreatDoorCards
set_option maxRecDepth 100000
namespace Go.Proofs.YtoadjbgpfihoiaaGreatDoor.sessionPlays
open Go.ChangeShapes Go.WideShapes Go.ChangeAt Go.RowKit
set_option maxRecDepth 100000 in
theorem contract (H : Type) (enc : TypeId × Value → H) (W : World) (base : Nat) (args : Array Value) (ds gs : List (DataW H)) (before : List MemPlace)
 (hval : ∀ (j : Nat) t v, Tryz.f7.params[j]? = some t → args[j]? = some v → Value.okWide Tryz.prog W .any base t v)
 (hW : DataW.Whole enc Tryz.prog Tryz.f7.params.toList Rows.sessionPlaysSpec.vars false W args.toList ds gs before) (HL : Tab W) :
 Calls Tryz.prog 7 args W fun e W' => ∃ v, e = .returned v ∧ Rows.sessionPlaysSpec.post enc Tryz.prog Tryz.f7 false true false false W args v W' := by
 have hW' := hW; obtain ⟨p, q, hA0, hV, rfl, hfz, hnd⟩ := hW; have hA : DataW.TrodAll enc Tryz.prog W 0 (fun _ => true) true Tryz.f7.params.toList args.toList ds p := hA0; rw [Tryz.params7] at hA hval; obtain ⟨v0, vs0, d0, ds0, p0, q0, hargs, rfl, rfl, h0, r0⟩ := trodAll_cons hA; obtain ⟨v1, vs1, d1, ds1, p1, q1, rfl, rfl, rfl, h1, r1⟩ := trodAll_cons r0; obtain ⟨v2, vs2, d2, ds2, p2, q2, rfl, rfl, rfl, h2, r2⟩ := trodAll_cons r1; obtain ⟨v3, vs3, d3, ds3, p3, q3, rfl, rfl, rfl, h3, r3⟩ := trodAll_cons r2; obtain ⟨v4, vs4, d4, ds4, p4, q4, rfl, rfl, rfl, h4, r4⟩ := trodAll_cons r3; obtain ⟨v5, vs5, d5, ds5, p5, q5, rfl, rfl, rfl, h5, r5⟩ := trodAll_cons r4; obtain ⟨v6, vs6, d6, ds6, p6, q6, rfl, rfl, rfl, h6, r6⟩ := trodAll_cons r5; obtain ⟨rfl, rfl, rfl⟩ := trodAll_nil r6; obtain rfl : args = #[v0, v1, v2, v3, v4, v5, v6] := by cases args; simp_all
 obtain ⟨rfl, rfl⟩ := trodVars_none hV; obtain ⟨member, hv0, -, -, w0⟩ := open_int Tryz.underlying3 (hval 0 3 v0 rfl rfl) h0; subst hv0; obtain ⟨number, hv1, -, -, w1⟩ := open_int Tryz.underlying2 (hval 1 2 v1 rfl rfl) h1; subst hv1; obtain ⟨fr, hv2, -, -, w2⟩ := open_int Tryz.underlying2 (hval 2 2 v2 rfl rfl) h2; subst hv2; obtain ⟨most, hv3, -, -, w3⟩ := open_int Tryz.underlying3 (hval 3 3 v3 rfl rfl) h3; subst hv3; obtain ⟨wait, hv4, -, -, w4⟩ := open_int Tryz.underlying2 (hval 4 2 v4 rfl rfl) h4; subst hv4; obtain ⟨now, hv5, -, -, w5⟩ := open_int Tryz.underlying2 (hval 5 2 v5 rfl rfl) h5; subst hv5; obtain ⟨l, hl1, hl2⟩ := open_scs (hval 6 62 v6 rfl rfl) h6; clear hA0; simp only [List.append_nil] at hW'; have hlt : ∀ x ∈ p0 ++ (p1 ++ (p2 ++ (p3 ++ (p4 ++ (p5 ++ p6))))), x.block < W.heap.size := fun x hx => by simpa using hW'.lt x (by simpa using hx)
 refine (plays_walk W v6 l member number fr most wait now hl1 hl2 (fun k hk => hk) (tabs_of W HL)).mono fun e W' ⟨he, hg⟩ => ?_
 subst he
 exact ⟨_, rfl, post_true (pa := p0 ++ (p1 ++ (p2 ++ (p3 ++ (p4 ++ (p5 ++ p6)))))) (pv := []) hg rfl rfl hW' (fun sp hsp => by
  have e0 := Ext.trod (by kernel_rfl) (of_decide_eq_true (by kernel_rfl)) h0 hg (fun x hx => hlt x (by simp [hx])) sp (fun x hx => hsp x (by simp [hx])); have e1 := Ext.trod (by kernel_rfl) (of_decide_eq_true (by kernel_rfl)) h1 hg (fun x hx => hlt x (by simp [hx])) sp (fun x hx => hsp x (by simp [hx])); have e2 := Ext.trod (by kernel_rfl) (of_decide_eq_true (by kernel_rfl)) h2 hg (fun x hx => hlt x (by simp [hx])) sp (fun x hx => hsp x (by simp [hx])); have e3 := Ext.trod (by kernel_rfl) (of_decide_eq_true (by kernel_rfl)) h3 hg (fun x hx => hlt x (by simp [hx])) sp (fun x hx => hsp x (by simp [hx])); have e4 := Ext.trod (by kernel_rfl) (of_decide_eq_true (by kernel_rfl)) h4 hg (fun x hx => hlt x (by simp [hx])) sp (fun x hx => hsp x (by simp [hx])); have e5 := Ext.trod (by kernel_rfl) (of_decide_eq_true (by kernel_rfl)) h5 hg (fun x hx => hlt x (by simp [hx])) sp (fun x hx => hsp x (by simp [hx])); have e6 := Ext.trod (by kernel_rfl) (of_decide_eq_true (by kernel_rfl)) h6 hg (fun x hx => hlt x (by simp [hx])) sp (fun x hx => hsp x (by simp [hx])); have := trodAll_cons_mk e0 (trodAll_cons_mk e1 (trodAll_cons_mk e2 (trodAll_cons_mk e3 (trodAll_cons_mk e4 (trodAll_cons_mk e5 (trodAll_cons_mk e6 trodAll_mk0)))))); rw [List.append_nil] at this; exact this) (fun _ _ => rfl) (by simp)⟩
theorem witness_row (os : Os) {H : Type} (enc : TypeId × Value → H) :
 (OpenSpec.ofChange Rows.sessionPlaysSpec).preRow enc Tryz.prog Tryz.f7 Rows.sessionPlaysRow.domain false Rows.sessionPlaysRow.laid ((laidWorld os).forCall (fun _ _ => 0) ⟨#[], #[.int .i64 0, .int .i64 0, .int .i64 0, .int .i64 0, .int .i64 0, .int .i64 0, .slice none 0 0], []⟩).memory #[.int .i64 0, .int .i64 0, .int .i64 0, .int .i64 0, .int .i64 0, .int .i64 0, .slice none 0 0] := by
 have hw : (DataW.whole enc Tryz.prog ((laidWorld os).forCall (fun _ _ => 0) ⟨#[], #[.int .i64 0, .int .i64 0, .int .i64 0, .int .i64 0, .int .i64 0, .int .i64 0, .slice none 0 0], []⟩).memory Tryz.f7.params.toList (OpenSpec.ofChange Rows.sessionPlaysSpec).vars false #[Value.int .i64 0, .int .i64 0, .int .i64 0, .int .i64 0, .int .i64 0, .int .i64 0, .slice none 0 0].toList 8).isSome = true := by kernel_rfl
 obtain ⟨x, hx⟩ := Option.isSome_iff_exists.1 hw; exact OpenSpec.preRow_of_cond 8 hx rfl (fun k hk => by cases hk) (by kernel_rfl) (laid_met os _)
set_option maxRecDepth 100000 in
theorem lifted (os : Os) (started : os.Started) (H : Type) (enc : TypeId × Value → H) :
 ReturnsInHanded {} Tryz.checked os 7 .any ((OpenSpec.ofChange Rows.sessionPlaysSpec).preRow enc Tryz.prog Tryz.f7 Rows.sessionPlaysRow.domain false Rows.sessionPlaysRow.laid) (Rows.sessionPlaysSpec.post enc Tryz.prog Tryz.f7 false true false false) := by
 refine returnsInHanded_of_row (C := Tryz.checked) (s := OpenSpec.ofChange Rows.sessionPlaysSpec) (F := fun _ _ _ => 0) own started (by kernel_rfl) Tryz.func7
  (witness_row_atRef (enc := enc) (C := Tryz.checked) false (laidWorld os) #[.int .i64 0, .int .i64 0, .int .i64 0, .int .i64 0, .int .i64 0, .int .i64 0, .slice none 0 0] rfl (by kernel_rfl) (by kernel_rfl) (by kernel_rfl) (witness_row os enc)) ?_
 intro W base args ds gs before hval hW _ _ _ hL _ _; exact contract H enc W base args ds gs before hval hW hL
theorem said : Rows.SessionPlaysSaid := by
 refine OpenClaim.holds_of_wide 7 Tryz.f7 rfl rfl rfl rfl rfl rfl rfl ⟨rfl, rfl, rfl, rfl, rfl⟩ rfl rfl rfl rfl rfl (by kernel_rfl) Tryz.func7 sessionPlays_facts
  (of_decide_eq_true (by kernel_rfl)) (by unfold Func.isWrapper; first | (rw [if_pos (by decide +kernel)]; kernel_rfl) | (rw [if_neg (by decide +kernel)]; exact ⟨rfl, rfl⟩))
  (fun os started H enc F => ?_)
 rw [OpenClaim.pre_eq_preRow]; exact lifted os started H enc
theorem carded : Rows.SessionPlaysCardSaid :=
 Claim7.holds_tied_plain_at .later [] [.data, .pinned] true (true, "c6a80e381de6fd43f649cbb4013f225040db4c692a4aafc42c418c8972076e24") true
  said (fun _ h => by cases h) (by kernel_rfl) (fun _ h => by cases h) sessionPlays_row_tie rfl ⟨rfl, rfl⟩ (by kernel_rfl) rfl
  (fun f fn hf hfn => by
   obtain rfl : f = 7 := Option.some.inj ((show Tryz.prog.funcNamed "antiphon/antiphonlaw26.SessionPlays" = some 7 by kernel_rfl).symm.trans hf) |>.symm; obtain rfl : fn = Tryz.f7 := (Option.some.inj (Tryz.func7.symm.trans hfn)).symm; refine ⟨by kernel_rfl, fun j t ht => ?_⟩; have hall : (Tryz.f7.params.toList.all fun t => !(Tryz.prog.wantsStandIn t)) = true := by kernel_rfl
   rw [List.all_eq_true] at hall; have := hall t (Array.mem_toList_iff.2 (Array.mem_of_getElem? ht)); have h2 : Tryz.prog.wantsStandIn t = false := by simpa using this
   exact h2)
  (by kernel_rfl)
end Go.Proofs.YtoadjbgpfihoiaaGreatDoor.sessionPlays
namespace Go.Proofs.YtoadjbgpfihoiaaGreatDoor
theorem sessionPlays_carded : Rows.SessionPlaysCardSaid := sessionPlays.carded
#print axioms sessionPlays_carded
end Go.Proofs.YtoadjbgpfihoiaaGreatDoor
