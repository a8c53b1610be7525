/- The whole of a judge: a function over a copy. Condition: the judge lies as 'JudgeAt' says. -/
import Derived.Test.YthhdgjofagdjeaaDoorJO
set_option linter.unusedVariables false
set_option linter.unusedSimpArgs false
set_option maxHeartbeats 1000000
set_option maxRecDepth 10000
namespace Go.Proofs.YthhdgjofagdjeaaDoor
open Go.RowKit

theorem whole_any {F : Nat → Prop} (w : World) (b : Nat) (J : JA) (h : JudgeX w F b J) (hl : J.T.l.length ≤ 4096) : Calls Tryd.prog 15 #[.pointer (some ⟨b, 0, none⟩)] w fun e w' => ∃ q b' F', e = .returned (.func (.func 33) #[] #[.pointer (some ⟨q, 0, none⟩)]) ∧ Box w' q 63 [.pointer (some ⟨b', 0, none⟩)] ∧ TalkX w' F' b' J.T ∧ Ext w w' ∧ w.heap.size ≤ q ∧ ∀ k, F' k → w.heap.size ≤ k := by
  have HX := Lib.hid h
  clear h
  go_enter Tryd.func15, Tryd.ntmps15
  go_wp2_with fail
  refine (judge_none w b J HX.out).mono ?_
  rintro e w' ⟨rfl, rfl⟩
  obtain ⟨Ft, tb, mb, h⟩ := HX.out
  obtain ⟨c25, c26, c27, c28, c29, lt⟩ := h.see
  have HT := Lib.hid h.talk
  clear h c25 c26 c27 c29
  go_wp2_with fail
  refine (talk_copy w' tb J.T HT.out hl).mono ?_
  rintro e w1 ⟨b', F', rfl, hT, hE, hF⟩
  have HT1 := Lib.hid hT
  have HE := Lib.hid hE
  have HF := Lib.hid hF
  clear hT hE hF c28 lt
  have hmf : ∀ (fn : Fn) (first cap : Array Value) (w : World), (Instr.makeFunc fn first cap).run Tryd.prog w = .ok (.func fn first cap) w := fun _ _ _ _ => rfl
  go_wp2_with fail
  have bx0 := (Box.new w1 63 [.pointer (some ⟨b', 0, none⟩)])
  have ex : Ext w1 (w1.alloc (Obj.cells #[.pointer (some ⟨b', 0, none⟩)] 63)) := ((Keeps.refl NoB w1).alloc _)
  have sx : (w1.alloc (Obj.cells #[.pointer (some ⟨b', 0, none⟩)] 63)).heap.size = w1.heap.size + 1 := by simp
  generalize (w1.alloc (Obj.cells #[.pointer (some ⟨b', 0, none⟩)] 63)) = w2 at bx0 ex sx ⊢
  have Sx := Lib.hid sx
  clear sx
  go_ret
  exact ⟨w1.heap.size, b', F', rfl, bx0, HT1.out.ext ex, HE.out.ext ex, HE.out.size, HF.out⟩
end Go.Proofs.YthhdgjofagdjeaaDoor
