/- What a judge does with a thing seen: an entry was put in. Condition: the judge lies as 'JudgeAt' says. -/
import Derived.Test.YthhdgjofagdjeaaDoorJV
set_option linter.unusedVariables false
set_option linter.unusedSimpArgs false
set_option maxHeartbeats 1000000
set_option maxRecDepth 10000
namespace Go.Proofs.YthhdgjofagdjeaaDoor
open Go.RowKit

theorem put_bad {F : Nat → Prop} (w : World) (b : Nat) (J : JA) (kind who index : Int) (e : En) (h : JudgeX w F b J) (hle : ¬ e.member = who) :
    Calls Tryd.prog 44 #[.pointer (some ⟨b, 0, none⟩), (⟨kind, who, index, e⟩ : Sn).v] w fun r w' => r = .panicked [{ v := .iface 22 (.int .i64 406), recovered := false }] ∧ Ext w w' := by
  have HX := Lib.hid h
  have HD : Hid ((e.member == who) = false) := Lib.hid (by simpa using hle)
  clear h hle
  unfold Sn.v
  go_enter Tryd.func44, Tryd.ntmps44
  go_wp2_with fail
  have bx0 := ((Box.new w 37 [.int .i64 kind, .int .i64 who, .int .i64 index, .int .i64 e.kind, .int .i64 e.member, .int .i64 e.number, .string (bs e.text)]).alloc (Obj.cells #[.bool (e.member == who)] 4))
  have bx1 := (Box.new (w.alloc (Obj.cells #[.int .i64 kind, .int .i64 who, .int .i64 index, .int .i64 e.kind, .int .i64 e.member, .int .i64 e.number, .string (bs e.text)] 37)) 4 [.bool (e.member == who)])
  have ex : Ext w ((w.alloc (Obj.cells #[.int .i64 kind, .int .i64 who, .int .i64 index, .int .i64 e.kind, .int .i64 e.member, .int .i64 e.number, .string (bs e.text)] 37)).alloc (Obj.cells #[.bool (e.member == who)] 4)) := (((Keeps.refl NoB w).alloc _).alloc _)
  have sx : ((w.alloc (Obj.cells #[.int .i64 kind, .int .i64 who, .int .i64 index, .int .i64 e.kind, .int .i64 e.member, .int .i64 e.number, .string (bs e.text)] 37)).alloc (Obj.cells #[.bool (e.member == who)] 4)).heap.size = w.heap.size + 2 := by simp
  simp only [World.size_alloc] at bx1
  generalize ((w.alloc (Obj.cells #[.int .i64 kind, .int .i64 who, .int .i64 index, .int .i64 e.kind, .int .i64 e.member, .int .i64 e.number, .string (bs e.text)] 37)).alloc (Obj.cells #[.bool (e.member == who)] 4)) = w1 at bx0 bx1 ex sx ⊢
  have Sx := Lib.hid sx
  clear sx
  have BX := Lib.hid bx0
  have HE := Lib.hid ex
  rw [HD.out] at bx1
  refine (must_bad_1 w1 _ 406 false true bx1 rfl).mono ?_
  rintro r w2 ⟨rfl, rfl⟩
  clear ex bx0 bx1
  go_wp2_with fail
  exact ⟨rfl, rfl, HE.out⟩
def JA.putIn (J : JA) (e : En) : JA := { J with put := if e ∈ J.put then J.put else J.put ++ [e] }
theorem put_ok {F : Nat → Prop} (w : World) (b : Nat) (J : JA) (kind who index : Int) (e : En) (h : JudgeX w F b J) (ho : OkE e) (hle : e.member = who) :
    Calls Tryd.prog 44 #[.pointer (some ⟨b, 0, none⟩), (⟨kind, who, index, e⟩ : Sn).v] w fun r w' => r = .returned (.tuple #[]) ∧ JudgeX w' F b (J.putIn e) ∧ Keeps F w w' := by
  have HO := Lib.hid ho
  clear ho
  have HX := Lib.hid h
  have HD : Hid ((e.member == who) = true) := Lib.hid (by simpa using hle)
  clear h hle
  unfold Sn.v
  go_enter Tryd.func44, Tryd.ntmps44
  go_wp2_with fail
  have bx0 := ((Box.new w 37 [.int .i64 kind, .int .i64 who, .int .i64 index, .int .i64 e.kind, .int .i64 e.member, .int .i64 e.number, .string (bs e.text)]).alloc (Obj.cells #[.bool (e.member == who)] 4))
  have bx1 := (Box.new (w.alloc (Obj.cells #[.int .i64 kind, .int .i64 who, .int .i64 index, .int .i64 e.kind, .int .i64 e.member, .int .i64 e.number, .string (bs e.text)] 37)) 4 [.bool (e.member == who)])
  have ex : Ext w ((w.alloc (Obj.cells #[.int .i64 kind, .int .i64 who, .int .i64 index, .int .i64 e.kind, .int .i64 e.member, .int .i64 e.number, .string (bs e.text)] 37)).alloc (Obj.cells #[.bool (e.member == who)] 4)) := (((Keeps.refl NoB w).alloc _).alloc _)
  have sx : ((w.alloc (Obj.cells #[.int .i64 kind, .int .i64 who, .int .i64 index, .int .i64 e.kind, .int .i64 e.member, .int .i64 e.number, .string (bs e.text)] 37)).alloc (Obj.cells #[.bool (e.member == who)] 4)).heap.size = w.heap.size + 2 := by simp
  simp only [World.size_alloc] at bx1
  generalize ((w.alloc (Obj.cells #[.int .i64 kind, .int .i64 who, .int .i64 index, .int .i64 e.kind, .int .i64 e.member, .int .i64 e.number, .string (bs e.text)] 37)).alloc (Obj.cells #[.bool (e.member == who)] 4)) = w1 at bx0 bx1 ex sx ⊢
  have Sx := Lib.hid sx
  clear sx
  have BX := Lib.hid bx0
  have HE := Lib.hid ex
  rw [HD.out] at bx1
  refine (must_ok_1 w1 _ 406 true true bx1 rfl).mono ?_
  rintro r w2 ⟨rfl, rfl⟩
  obtain ⟨Ft, tb, mb, hat⟩ := HX.out.ext ex
  have HAT := Lib.hid hat
  have hstep : ∃ w3, (Instr.mapUpdate 72 (.map (some mb)) e.v (.bool true)).run Tryd.prog w2.drew = .ok () w3 ∧ EnSet w3 mb (J.putIn e).put ∧ Keeps (OneB mb) w2.drew w3 := by
    unfold JA.putIn
    by_cases hm : e ∈ J.put
    · rw [if_pos hm]
      exact run_enput_same (hat.map.ext (Ext.drew0 _)) HO.out hm
    · rw [if_neg hm]
      exact run_enput (hat.map.ext (Ext.drew0 _)) HO.out hm
  obtain ⟨w3, hr3, hs3, hk3⟩ := hstep
  unfold En.v at hr3
  have HS3 := Lib.hid hs3
  have HK3 := Lib.hid hk3
  obtain ⟨-, -, -, -, c29, lt⟩ := HAT.out.see
  clear ex bx0 bx1 hat hs3 hk3
  obtain ⟨cBX, zBX⟩ := BX.out.reads
  have lBX := BX.out.lt
  go_wp2_with fail
  have hE0 : Keeps NoB w2 w2.drew := (Keeps.refl _ _).drew
  refine wp_region_plan [(0, 0), (0, 1), (0, 2), (3, 3), (0, 4), (3, 5)] [] [6] [6] (ClsE w2) (by kernel_rfl) (by kernel_rfl) (by kernel_rfl) rfl rfl (ClsE.of hE0) (fun _ _ _ d _ h => by cases d <;> exact h) ?_; simp only [planL, List.getElem?_toArray, List.getElem?_cons_succ, List.getElem?_cons_zero]
  refine plan_pure rfl (fun K hK => quiet_move' _ rfl (hK _ ?_)); clear hK K; simp only [Act.put, Act.eval, Array.getD_eq_getD_getElem?, List.getElem?_toArray, List.getElem?_cons_zero, Option.getD_some, List.setIfInBounds_toArray, List.set_cons_zero, List.set_cons_succ]
  refine plan_pure rfl (fun K hK => quiet_run (v := ?_) (fun W _ => ?_) (hK _ ?_)); rotate_left; (go_simp <;> with_reducible rfl); clear hK K; simp only [Act.put, List.setIfInBounds_toArray, List.set_cons_zero, List.set_cons_succ]
  refine plan_pure rfl (fun K hK => quiet_run (v := ?_) (fun W _ => ?_) (hK _ ?_)); rotate_left; (go_simp <;> with_reducible rfl); clear hK K; simp only [Act.put, List.setIfInBounds_toArray, List.set_cons_zero, List.set_cons_succ]
  refine plan_exact rfl (fun K hK => quiet_runX (v := ?_) ?_ (hK _ ?_)); rotate_left; (go_simp <;> with_reducible rfl); clear hK K; simp only [Act.put, List.setIfInBounds_toArray, List.set_cons_zero, List.set_cons_succ]
  refine plan_pure rfl (fun K hK => quiet_run (v := ?_) (fun W _ => ?_) (hK _ ?_)); rotate_left; (go_simp <;> with_reducible rfl); clear hK K; simp only [Act.put, List.setIfInBounds_toArray, List.set_cons_zero, List.set_cons_succ]
  refine plan_exact rfl (fun K hK => quiet_runX (v := ?_) ?_ (hK _ ?_)); rotate_left; (go_simp <;> with_reducible rfl); clear hK K; simp only [Act.put, List.setIfInBounds_toArray, List.set_cons_zero, List.set_cons_succ]
  refine plan_nil ?_; simp only [tailL, List.filterMap_cons, List.filterMap_nil, List.getElem?_toArray, List.getElem?_cons_succ, List.getElem?_cons_zero]; change wpList _ _ _ (_ :: []) _ _
  clear cBX zBX lBX
  go_wp2_with fail
  go_end0
  have hk : Keeps (OneB mb) w2 w3 := (Ext.keeps (Ext.drew0 w2)).trans HK3.out
  have hA := HAT.out
  refine ⟨rfl, ⟨Ft, tb, mb, { box := hA.box.keeps hk (fun h => hA.bm h), talk := hA.talk.keeps hk (fun k hF h9 => hA.nm (by have h8 : k = mb := h9; rw [← h8]; exact hF)), map := HS3.out, fb := hA.fb, fm := hA.fm, ft := hA.ft, nb := hA.nb, nm := hA.nm, bm := hA.bm, lt := fun k hF => Nat.lt_of_lt_of_le (hA.lt k hF) hk.size, l9 := hA.l9, l16 := hA.l16 }⟩, (Ext.keeps HE.out).then hk (fun i hi h => by obtain rfl : i = mb := h; exact hA.fm)⟩
end Go.Proofs.YthhdgjofagdjeaaDoor
