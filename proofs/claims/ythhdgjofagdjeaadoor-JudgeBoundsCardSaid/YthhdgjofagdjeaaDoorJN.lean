/- The talk of nothing. No condition. -/
import Derived.Test.YthhdgjofagdjeaaDoorJM
set_option linter.unusedVariables false
set_option linter.unusedSimpArgs false
set_option maxHeartbeats 1000000
set_option maxRecDepth 100000
namespace Go.Proofs.YthhdgjofagdjeaaDoor
open Go.RowKit

def T0 : TA := ⟨[], 0, List.replicate 16 ⟨false, 0, 0⟩⟩
theorem build_talk (w : World) : (Instr.build 93 #[(3, Value.bool true)]).run Tryd.prog w = .ok (.agg (T0.cells (.slice none 0 0)).toArray) w := by kernel_rfl
theorem talk_new (w : World) : Calls Tryd.prog 16 #[.slice none 0 0] w fun e w' => ∃ b F, e = .returned (.tuple #[.pointer (some ⟨b, 0, none⟩), .int .i64 0]) ∧ TalkX w' F b T0 ∧ Ext w w' ∧ ∀ k, F k → w.heap.size ≤ k := by
  go_enter Tryd.func16, Tryd.ntmps16
  go_wp2_with first
    | (refine wpList_build_wide 93 (v := .agg (T0.cells (.slice none 0 0)).toArray) rfl rfl (build_talk _) ?_)
    | (refine wpList_box_wide 93 (vs := T0.cells (.slice none 0 0)) _ rfl rfl rfl ?_; intro w1 hB1 hE1 hs1; replace hs1 := Lib.hid hs1; replace hB1 := Lib.hid hB1; replace hE1 := Lib.hid hE1; refine standing ?_)
  refine ⟨?_⟩
  go_wp2_with fail
  refine wp_loop_rounds 1 ?_
  rw [rounds_succ]
  go_wp2_with fail
  go_ret2
  refine ⟨w.heap.size, OneB w.heap.size, rfl, ⟨.slice none 0 0, hB1.out, Win.nil _ _ _, rfl, fun g hg => (by cases hg), fun k hk => ?_, rfl⟩, hE1.out, fun k hk => ?_⟩
  · have h1 := hs1.out
    have h2 : k = w.heap.size := hk
    omega
  · have h2 : k = w.heap.size := hk
    omega
end Go.Proofs.YthhdgjofagdjeaaDoor
