/- Whether an entry would count. Condition: the talk lies as 'TalkAt' says; of an entry that says something, that text.Check answers as the document's. -/
import Derived.Test.YthhdgjofagdjeaaDoorJH
set_option linter.unusedVariables false
set_option linter.unusedSimpArgs false
set_option maxHeartbeats 1000000
set_option maxRecDepth 10000
namespace Go.Proofs.YthhdgjofagdjeaaDoor
open Go.RowKit

theorem enB_mem {e : En} (h : enB e = true) : ∃ m : Nat, e.member = m ∧ m < 16 := by
  have key : ∀ z : Int, memB z = true → ∃ m : Nat, z = m ∧ m < 16 := by
    intro z hz
    unfold memB at hz
    rw [Bool.and_eq_true, decide_eq_true_eq, decide_eq_true_eq] at hz
    exact ⟨z.toNat, by omega, by omega⟩
  unfold enB at h
  split at h
  · unfold noneB at h
    have h1 := of_decide_eq_true h
    refine ⟨0, ?_, by decide⟩
    rw [h1]; rfl
  · split at h
    · rw [Bool.and_eq_true] at h
      exact key _ h.1
    · split at h
      · unfold sayB at h
        simp only [Bool.and_eq_true] at h
        exact key _ h.1.1.1
      · cases h
theorem would_any {F : Nat → Prop} (w : World) (b : Nat) (T : TA) (e : En) (h : TalkX w F b T) (hI : I64 e.kind)
    (hC : e.kind = 4 → ∀ w1, Ext w w1 → Calls Tryd.prog 65 #[.string (bs e.text)] w1 fun r w' => r = .returned (.int .i64 (chk e.text : Int)) ∧ Ext w1 w') :
    Calls Tryd.prog 49 #[.pointer (some ⟨b, 0, none⟩), e.v] w fun r w' => r = .returned (.bool (enB e && (countsR T e).2)) ∧ Ext w w' := by
  have HT := Lib.hid h
  have HI := Lib.hid hI
  have HC := Lib.hid hC
  clear h hI hC
  obtain ⟨kind, member, number, text⟩ := e
  unfold En.v
  go_enter Tryd.func49, Tryd.ntmps49
  go_wp2_with fail
  have bx0 := (Box.new w 35 [.int .i64 kind, .int .i64 member, .int .i64 number, .string (bs text)])
  have ex : Ext w (w.alloc (Obj.cells #[.int .i64 kind, .int .i64 member, .int .i64 number, .string (bs text)] 35)) := ((Keeps.refl NoB w).alloc _)
  have sx : (w.alloc (Obj.cells #[.int .i64 kind, .int .i64 member, .int .i64 number, .string (bs text)] 35)).heap.size = w.heap.size + 1 := by simp
  generalize (w.alloc (Obj.cells #[.int .i64 kind, .int .i64 member, .int .i64 number, .string (bs text)] 35)) = w0 at bx0 ex sx ⊢
  have Sx := Lib.hid sx
  clear sx
  have B0 := Lib.hid bx0
  have HE := Lib.hid ex
  replace HT := Lib.hid (HT.out.ext ex)
  clear bx0 ex
  refine (talk_none w0 b T HT.out).mono ?_
  rintro r w' ⟨rfl, rfl⟩
  obtain ⟨cB0, zB0⟩ := B0.out.reads
  have lB0 := B0.out.lt
  go_wp2_with fail
  refine (right_any w' ⟨kind, member, number, text⟩ HI.out (fun hk W hW => HC.out hk W (HE.out.ext hW))).mono ?_
  rintro r w2 ⟨rfl, hE2⟩
  clear cB0 zB0 lB0
  replace HT := Lib.hid (HT.out.ext hE2)
  replace HE := Lib.hid (HE.out.ext hE2)
  replace B0 := Lib.hid (B0.out.ext hE2)
  clear hE2
  cases hb : enB ⟨kind, member, number, text⟩ with
  | false =>
    go_wp2_with fail
    go_ret
    exact ⟨by rw [hb]; simp, HE.out⟩
  | true =>
    obtain ⟨m, hm, h16⟩ := enB_mem hb
    dsimp only at hm
    subst hm
    have HBB := Lib.hid hb
    clear hb
    obtain ⟨cB0, zB0⟩ := B0.out.reads
    have lB0 := B0.out.lt
    go_wp2_with fail
    clear cB0 zB0 lB0
    refine (counts_any _ b T kind m number text HT.out h16 HI.out).mono ?_
    rintro r w3 ⟨rfl, hE3⟩
    obtain ⟨⟨i0, j0, l0⟩, is, hcr⟩ : ∃ s is, countsR T ⟨kind, (m : Int), number, text⟩ = (s, is) := ⟨_, _, rfl⟩
    rw [hcr]
    have HCR := Lib.hid hcr
    replace HE := Lib.hid (HE.out.ext hE3)
    clear hE3 hcr
    unfold St.v
    go_wp2_with fail
    go_ret
    exact ⟨by rw [HBB.out, HCR.out]; simp, HE.out.alloc _⟩
end Go.Proofs.YthhdgjofagdjeaaDoor
