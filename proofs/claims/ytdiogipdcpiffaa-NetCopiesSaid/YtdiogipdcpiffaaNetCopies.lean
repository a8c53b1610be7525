/- NetCopies: for every input the function returns true and what it was given reads as before. No further condition. -/
import Derived.Test.YtdiogipdcpiffaaNCopies
import Derived.Test.YtdiogipdcpiffaaNetArgs
set_option linter.unusedVariables false
namespace Go.Proofs.Ytdiogipdcpiffaa
theorem copies_all (v vx vy : Value) (l : List Ac) (x y : Ac) (w : World) (h : Acts w (Old w) v l) (hx : ActV w (Old w) vx x) (hy : ActV w (Old w) vy y) (hn : l.length ≤ 9223372036854775807) (hb : ∀ x ∈ l, x.bytes.length ≤ 9223372036854775807)
    (hxl : x.bytes.length ≤ 9223372036854775807) (hyl : y.bytes.length ≤ 9223372036854775807) (hok : ∀ x ∈ l, x.ok) (hxo : x.ok) (hyo : y.ok) :
    Calls Try.prog 7 #[v, vx, vy] w fun e w' => e = .returned (.bool true) ∧ Ext w w' := by
  cases hf : fewOf l 30 with
  | false => exact copies_few w v vx vy l x y h hx hy hn hb hxl hyl hf fun k hk => hk
  | true =>
    cases hf2 : fewOf [x, y] 2 with
    | false => exact copies_few2 w v vx vy l x y h hx hy hn hb hxl hyl hf hf2 fun k hk => hk
    | true => exact copies_in w v vx vy l x y h hx hy hn hb hxl hyl hf hf2 hok hxo hyo fun k hk => hk
end Go.Proofs.Ytdiogipdcpiffaa
namespace Go.Proofs.Ytdiogipdcpiffaa.netCopies
open Go.ChangeShapes Go.WideShapes Go.ChangeAt Go.RowKit
theorem own : ownKnob Try.prog.godebug = none := by kernel_rfl
set_option maxRecDepth 100000 in
theorem contract (H : Type) (enc : TypeId × Value → H) (W : World) (base : Nat) (args : Array Value) (ds gs : List (DataW H)) (before : List MemPlace)
    (hval : ∀ (j : Nat) t v, Try.f7.params[j]? = some t → args[j]? = some v → Value.okWide Try.prog W .any base t v)
    (hW : DataW.Whole enc Try.prog Try.f7.params.toList Rows.netCopiesSpec.vars false W args.toList ds gs before) :
    Calls Try.prog 7 args W fun e W' => ∃ v, e = .returned v ∧ Rows.netCopiesSpec.post enc Try.prog Try.f7 false true false false W args v W' := by
  have hW' := hW
  obtain ⟨p, q, hA0, hV, rfl, hfz, hnd⟩ := hW
  have hA : DataW.TrodAll enc Try.prog W 0 (fun _ => true) true Try.f7.params.toList args.toList ds p := hA0
  rw [Try.params7] at hA hval
  obtain ⟨v0, vs0, d0, ds0, p0, q0, hargs, rfl, rfl, h0, r0⟩ := trodAll_cons hA
  obtain ⟨v1, vs1, d1, ds1, p1, q1, rfl, rfl, rfl, h1, r1⟩ := trodAll_cons r0
  obtain ⟨v2, vs2, d2, ds2, p2, q2, rfl, rfl, rfl, h2, r2⟩ := trodAll_cons r1
  obtain ⟨rfl, rfl, rfl⟩ := trodAll_nil r2
  obtain rfl : args = #[v0, v1, v2] := by cases args; simp_all
  obtain ⟨rfl, rfl⟩ := trodVars_none hV
  obtain ⟨l, hl1, hl2, hl3, hl4⟩ := open_acts (hval 0 34 v0 rfl rfl) h0
  obtain ⟨x, hx1, hx2, hx3⟩ := open_act (hval 1 36 v1 rfl rfl) h1
  obtain ⟨y, hy1, hy2, hy3⟩ := open_act (hval 2 36 v2 rfl rfl) h2
  clear hA0
  simp only [List.append_nil] at hW'
  have hlt : ∀ x ∈ p0 ++ (p1 ++ p2), x.block < W.heap.size := fun x hx => by simpa using hW'.lt x (by simpa using hx)
  refine (copies_all v0 v1 v2 l x y W hl1 hx1 hy1 hl2 hl3 hx2 hy2 hl4 hx3 hy3).mono fun e W' ⟨he, hg⟩ => ?_
  subst he
  exact ⟨_, rfl, post_true (pa := p0 ++ (p1 ++ p2)) (pv := []) hg rfl rfl hW' (fun sp hsp => by
    have e0 := Ext.trod (by kernel_rfl) (of_decide_eq_true (by kernel_rfl)) h0 hg (fun x hx => hlt x (by simp [hx])) sp (fun x hx => hsp x (by simp [hx]))
    have e1 := Ext.trod (by kernel_rfl) (of_decide_eq_true (by kernel_rfl)) h1 hg (fun x hx => hlt x (by simp [hx])) sp (fun x hx => hsp x (by simp [hx]))
    have e2 := Ext.trod (by kernel_rfl) (of_decide_eq_true (by kernel_rfl)) h2 hg (fun x hx => hlt x (by simp [hx])) sp (fun x hx => hsp x (by simp [hx]))
    have := trodAll_cons_mk e0 (trodAll_cons_mk e1 (trodAll_cons_mk e2 trodAll_mk0))
    rw [List.append_nil] at this
    exact this) (fun _ _ => rfl) (by simp)⟩
set_option maxRecDepth 100000 in
theorem lifted (os : Os) (started : os.Started) (H : Type) (enc : TypeId × Value → H) :
    ReturnsInHanded {} Try.checked os 7 .any (Rows.netCopiesSpec.pre6 enc Try.prog Try.f7 Rows.netCopiesRow.domain false) (Rows.netCopiesSpec.post enc Try.prog Try.f7 false true false false) := by
  refine returnsInHanded_of_change (C := Try.checked) own started (by kernel_rfl) Try.func7
    (ChangeSpec.witness6 (enc := enc) (C := Try.checked) false ⟨#[], #[.slice none 0 0, .agg #[.int .i64 0, .int .i64 0, .int .i64 0, .int .i64 0, .slice none 0 0, .bool false], .agg #[.int .i64 0, .int .i64 0, .int .i64 0, .int .i64 0, .slice none 0 0, .bool false]], []⟩ 8 (by kernel_rfl) (by kernel_rfl) (by kernel_rfl) (by kernel_rfl)) ?_
  intro W base args ds gs before hval hW _ _
  exact contract H enc W base args ds gs before hval hW
theorem said : Rows.NetCopiesSaid :=
  OpenClaim.holds_of_wide 7 Try.f7 rfl rfl rfl rfl rfl rfl rfl ⟨rfl, rfl, rfl, rfl, rfl⟩ rfl rfl rfl rfl rfl (by kernel_rfl) Try.func7 (by kernel_rfl)
    (of_decide_eq_true (by kernel_rfl)) (by unfold Func.isWrapper; first | (rw [if_pos (by decide +kernel)]; kernel_rfl) | (rw [if_neg (by decide +kernel)]; exact ⟨rfl, rfl⟩))
    (fun os started H enc _ => lifted os started H enc)
end Go.Proofs.Ytdiogipdcpiffaa.netCopies
namespace Go.Proofs.Ytdiogipdcpiffaa
theorem netCopies_said : Rows.NetCopiesSaid := netCopies.said
#print axioms netCopies_said
end Go.Proofs.Ytdiogipdcpiffaa
