/- The judge's table of kinds. No condition. -/
import Derived.Test.YthhdgjofagdjeaaDoorMapI
import Derived.Test.YthhdgjofagdjeaaDoorJA
set_option linter.unusedVariables false
set_option linter.unusedSimpArgs false
set_option maxHeartbeats 400000
set_option maxRecDepth 10000
namespace Go.Proofs.YthhdgjofagdjeaaDoor
open Go.RowKit

def kindV (entry place : Bool) (least : Int) (f : Nat) : Value := .agg #[.bool entry, .bool place, .int .i64 least, .func (.func f) #[] #[]]
def kindsD : List (Int × Value) := [(1, kindV true false 0 44), (2, kindV true true 0 46), (3, kindV false true 0 50), (4, kindV false false 0 51), (5, kindV true false 0 52), (6, kindV false false (-1) 53)]
theorem kinds_any (w : World) : Calls Tryd.prog 30 #[] w fun e w' => ∃ m, e = .returned (.map (some m)) ∧ MapI w' m kindsD ∧ Ext w w' ∧ w.heap.size ≤ m := by
  have put := fun (w : World) (D : List (Int × Value)) (m : Nat) (h : MapI w m D) (n : Int) (hn : I64 n) (hne : ∀ p ∈ D, p.1 ≠ n) (v : Value) => h.put Tryd.underlying82 Tryd.underlying32 hn hne v
  have hmm := run_makeMap (P := Tryd.prog) 82 w
  obtain ⟨w1, r1, m1, k1⟩ := put _ _ _ (mapi_new w) 1 (i64_lit 1 rfl) (by decide) (kindV true false 0 44)
  obtain ⟨w2, r2, m2, k2⟩ := put _ _ _ m1 2 (i64_lit 2 rfl) (by simp) (kindV true true 0 46)
  obtain ⟨w3, r3, m3, k3⟩ := put _ _ _ m2 3 (i64_lit 3 rfl) (by simp) (kindV false true 0 50)
  obtain ⟨w4, r4, m4, k4⟩ := put _ _ _ m3 4 (i64_lit 4 rfl) (by simp) (kindV false false 0 51)
  obtain ⟨w5, r5, m5, k5⟩ := put _ _ _ m4 5 (i64_lit 5 rfl) (by simp) (kindV true false 0 52)
  obtain ⟨w6, r6, m6, k6⟩ := put _ _ _ m5 6 (i64_lit 6 rfl) (by simp) (kindV false false (-1) 53)
  have HM := Lib.hid m6
  have HK := Lib.hid (((((k1.trans k2).trans k3).trans k4).trans k5).trans k6)
  clear m1 m2 m3 m4 m5 m6 k1 k2 k3 k4 k5 k6 put
  unfold kindV at r1 r2 r3 r4 r5 r6
  go_enter Tryd.func30, Tryd.ntmps30
  go_wp2_with fail
  go_ret
  refine ⟨_, rfl, HM.out, ?_, Nat.le_refl _⟩
  exact ((Keeps.refl NoB w).alloc _).then HK.out fun i hi h => absurd (show i = w.heap.size from h) (by omega)
end Go.Proofs.YthhdgjofagdjeaaDoor
