/- What See defers: it takes a panic's error, and counts it; of no panic it does nothing. Condition: the error's and the judge's places lie known whole. -/
import Derived.Test.YthhdgjofagdjeaaDoorJZ
import Derived.Defers
import Derived.Recover
set_option linter.unusedVariables false
set_option linter.unusedSimpArgs false
set_option maxHeartbeats 2000000
set_option maxRecDepth 10000
namespace Go.Proofs.YthhdgjofagdjeaaDoor
open Go.RowKit

theorem assert_errno (w : World) (n : Int) : (Instr.typeAssert (.iface 22 (.int .i64 n)) 20 22 false).run Tryd.prog w = .ok (.int .i64 n) w := by kernel_rfl
theorem catch_panic (w : World) (ke kj b tb mb : Nat) (J : JA) (z n : Int) (older : List PanicEntry) (he : Box w ke 22 [.int .i64 z]) (hj : Box w kj 39 [.pointer (some ⟨b, 0, none⟩)]) (hb : Box w b 76 (J.cells tb mb)) (l9 : J.told.length = 9) (l16 : J.next.length = 16) (n1 : ke ≠ kj) (n2 : ke ≠ b) :
    CallsD Tryd.prog 29 #[.pointer (some ⟨ke, 0, none⟩), .pointer (some ⟨kj, 0, none⟩)] (.panicking ({ v := .iface 22 (.int .i64 n), recovered := false } :: older)) w fun e u' w' =>
      e = .returned (.tuple #[]) ∧ u' = .panicking ({ v := .iface 22 (.int .i64 n), recovered := true } :: older) ∧ w' = (w.setCell ⟨ke, 0, none⟩ (.int .i64 n)).setCell ⟨b, 25, none⟩ (.int .i64 (wrap64 (J.broken + 1))) := by
  obtain ⟨-, -, c25, c26, c27, c28, c29⟩ := J.at tb mb l9 l16
  refine callsD_of_wpS Tryd.func29 rfl fun c₀ cs hu => ?_
  simp only [Tryd.ntmps29, List.size_toArray, List.length_cons, List.length_nil, Nat.reduceAdd, Nat.reduceSub, Array.replicate_succ, Array.replicate_zero, List.push_toArray, List.append_toArray, List.nil_append, List.cons_append]
  apply wpS_seq
  apply wpS_region
  simp [wpOpsS, go_sem, recoverD, hu, Exit.thenS]
  refine wpS_of_wp ?_
  obtain ⟨f1, z1⟩ := he.reads
  obtain ⟨f2, z2⟩ := hj.reads
  obtain ⟨f3, z3⟩ := hb.reads
  have d1 : ¬ ke = kj := n1
  have d2 : ¬ ke = b := n2
  have d3 : ¬ kj = ke := fun h => n1 h.symm
  have d4 : ¬ b = ke := fun h => n2 h.symm
  have ha := fun w => assert_errno w n
  clear he hj hb n1 n2 l9 l16
  go_wp2_with fail
  refine ⟨rfl, _, rfl, .tuple #[], ?_, rfl, rfl, rfl⟩
  simp [results, Tryd.results29]
theorem catch_none (w : World) (ke kj : Nat) :
    CallsD Tryd.prog 29 #[.pointer (some ⟨ke, 0, none⟩), .pointer (some ⟨kj, 0, none⟩)] .returning w fun e u' w' => e = .returned (.tuple #[]) ∧ u' = .returning ∧ w' = w := by
  refine callsD_of_wpS Tryd.func29 rfl fun c₀ cs hu => ?_
  simp only [Tryd.ntmps29, List.size_toArray, List.length_cons, List.length_nil, Nat.reduceAdd, Nat.reduceSub, Array.replicate_succ, Array.replicate_zero, List.push_toArray, List.append_toArray, List.nil_append, List.cons_append]
  apply wpS_seq
  apply wpS_region
  simp [wpOpsS, go_sem, recoverD, hu, Exit.thenS]
  refine wpS_of_wp ?_
  go_wp2_with fail
  cases c₀
  simp_all [bodyPostS, results, Tryd.results29]
structure OkJ (J : JA) : Prop where
  n : J.n ≤ 9
  m : J.m ≤ 16
  told : ∀ p, J.told.getD p 0 ≤ (J.T.l.length : Int)
  slot : (J.T.l.length : Int) ≤ J.T.slot
  slot4 : J.T.slot ≤ 4096
def kindsR (J : JA) (x : Sn) : JA × Int :=
  if x.kind = 1 then putR J x.who x.e else if x.kind = 2 then lineR J x.who.toNat x.index x.e else if x.kind = 3 then backR J x.who.toNat x.index
  else if x.kind = 4 then beganR J x.who.toNat x.index else if x.kind = 5 then toldR J x.who.toNat x.index x.e else wentR J x.who.toNat x.index
theorem kind_any {F : Nat → Prop} (w : World) (b : Nat) (J : JA) (x : Sn) (en pl : Bool) (least : Int) (g : Nat) (hk : kindF x.kind = some (en, pl, least, g)) (hm : mayE J x = 0) (h : JudgeX w F b J) (hok : OkJ J) (ho : OkE x.e) (hI : I64 x.e.kind)
    (hC : x.e.kind = 4 → ∀ w1, Keeps F w w1 → Calls Tryd.prog 65 #[.string (bs x.e.text)] w1 fun r w' => r = .returned (.int .i64 (chk x.e.text : Int)) ∧ Ext w1 w') :
    Calls Tryd.prog g #[.pointer (some ⟨b, 0, none⟩), x.v] w fun r w' => r = doneE (kindsR J x).2 ∧ Upd F w w' (judgeR b (kindsR J x).1) := by
  obtain ⟨kind, who, index, e⟩ := x
  obtain ⟨hn, hmm, ht, hs, h4⟩ := hok
  have hl : J.T.l.length ≤ 4096 := by omega
  dsimp only at hk hC ho hI
  unfold mayE at hm
  dsimp only at hm
  rw [hk] at hm
  dsimp only at hm
  have h1 : ¬ (index < least ∨ (en = true ∧ (e.kind = 1 ∨ enB e = false))) := fun hh => by rw [if_pos hh] at hm; cases hm
  rw [if_neg h1] at hm
  have h2 : ¬ (who < 0 ∨ (if pl then J.n else J.m) ≤ who) := fun hh => by rw [if_pos hh] at hm; cases hm
  have hw0 : 0 ≤ who := by omega
  obtain ⟨p, rfl⟩ : ∃ p : Nat, who = p := ⟨who.toNat, by omega⟩
  have hix : least ≤ index := by omega
  unfold kindsR
  dsimp only
  rw [show ((p : Int)).toNat = p from rfl]
  unfold kindF at hk
  by_cases k1 : kind = 1
  · rw [if_pos k1] at hk ⊢; cases hk; exact put_any w b J kind p index e h ho
  by_cases k2 : kind = 2
  · rw [if_neg k1, if_pos k2] at hk ⊢; cases hk; exact line_any w b J kind p index e h (by simp only [if_true] at h2; omega) hix (ht p) hl (by omega) ho hI hC
  by_cases k3 : kind = 3
  · rw [if_neg k1, if_neg k2, if_pos k3] at hk ⊢; cases hk; exact back_any w b J kind p index e h (by simp only [if_true] at h2; omega)
  have hp : kind = 4 ∨ kind = 5 ∨ kind = 6 → p < 16 := fun hh => by
    have : pl = false := by
      rw [if_neg k1, if_neg k2, if_neg k3] at hk
      rcases hh with hh | hh | hh <;> subst hh <;> cases hk <;> rfl
    subst this
    simp only [Bool.false_eq_true, if_false] at h2
    omega
  by_cases k4 : kind = 4
  · rw [if_neg k1, if_neg k2, if_neg k3, if_pos k4] at hk ⊢; cases hk; exact began_any w b J kind p index e h (hp (.inl k4)) hl
  by_cases k5 : kind = 5
  · rw [if_neg k1, if_neg k2, if_neg k3, if_neg k4, if_pos k5] at hk ⊢; cases hk; exact told_any w b J kind p index e h (hp (.inr (.inl k5))) hl
  · rw [if_neg k1, if_neg k2, if_neg k3, if_neg k4, if_neg k5] at hk ⊢
    by_cases k6 : kind = 6
    · rw [if_pos k6] at hk; cases hk; exact went_any w b J kind p index e h (hp (.inr (.inr k6)))
    · rw [if_neg k6] at hk; cases hk
theorem kind_enters {n : Int} {en pl : Bool} {least : Int} {g : Nat} (hk : kindF n = some (en, pl, least, g)) : ∀ args w, (callFunc g args).run Tryd.prog w = .ok (.enter g args) w := by
  unfold kindF at hk
  split at hk
  · cases hk; exact enters_of Tryd.func44 (by kernel_rfl) rfl
  split at hk
  · cases hk; exact enters_of Tryd.func46 (by kernel_rfl) rfl
  split at hk
  · cases hk; exact enters_of Tryd.func50 (by kernel_rfl) rfl
  split at hk
  · cases hk; exact enters_of Tryd.func51 (by kernel_rfl) rfl
  split at hk
  · cases hk; exact enters_of Tryd.func52 (by kernel_rfl) rfl
  split at hk
  · cases hk; exact enters_of Tryd.func53 (by kernel_rfl) rfl
  · cases hk
end Go.Proofs.YthhdgjofagdjeaaDoor
