/- A judge in memory; whether there is one, how often something was broken. Condition: it lies as 'JudgeAt' says. -/
import Derived.Test.YthhdgjofagdjeaaDoorJK
import Derived.Test.YthhdgjofagdjeaaDoorJL
import Derived.Test.YthhdgjofagdjeaaDoorMapE
set_option linter.unusedVariables false
set_option linter.unusedSimpArgs false
set_option maxHeartbeats 1000000
set_option maxRecDepth 10000
namespace Go.Proofs.YthhdgjofagdjeaaDoor
open Go.RowKit

structure JA where
  n : Int
  m : Int
  T : TA
  told : List Int
  next : List Int
  put : List En
  broken : Int
def iV (n : Int) : Value := .int .i64 n
def JA.cells (J : JA) (tb mb : Nat) : List Value := J.told.map iV ++ (J.next.map iV ++ [.int .i64 J.broken, .int .i64 J.n, .int .i64 J.m, .pointer (some ⟨tb, 0, none⟩), .map (some mb)])
structure JudgeAt (w : World) (F Ft : Nat → Prop) (b tb mb : Nat) (J : JA) : Prop where
  box : Box w b 76 (J.cells tb mb)
  talk : TalkX w Ft tb J.T
  map : EnSet w mb J.put
  fb : F b
  fm : F mb
  ft : ∀ k, Ft k → F k
  nb : ¬ Ft b
  nm : ¬ Ft mb
  bm : b ≠ mb
  lt : ∀ k, F k → k < w.heap.size
  l9 : J.told.length = 9
  l16 : J.next.length = 16
def JudgeX (w : World) (F : Nat → Prop) (b : Nat) (J : JA) : Prop := ∃ Ft tb mb, JudgeAt w F Ft b tb mb J
section
variable {w w' : World} {F Ft S : Nat → Prop} {b tb mb : Nat} {J : JA}
theorem JudgeAt.keeps (h : JudgeAt w F Ft b tb mb J) (hk : Keeps S w w') (hS : ∀ k, F k → ¬ S k) : JudgeAt w' F Ft b tb mb J :=
  { h with box := h.box.keeps hk (hS b h.fb), talk := h.talk.keeps hk (fun k hF => hS k (h.ft k hF)), map := h.map.keeps hk (hS mb h.fm), lt := fun k hF => Nat.lt_of_lt_of_le (h.lt k hF) hk.size }
theorem JudgeX.keeps (h : JudgeX w F b J) (hk : Keeps S w w') (hS : ∀ k, F k → ¬ S k) : JudgeX w' F b J := let ⟨Ft, tb, mb, h⟩ := h; ⟨Ft, tb, mb, h.keeps hk hS⟩
theorem JudgeX.ext (h : JudgeX w F b J) (hk : Ext w w') : JudgeX w' F b J := h.keeps hk fun _ _ => noB _
theorem JA.at (J : JA) (tb mb : Nat) (h9 : J.told.length = 9) (h16 : J.next.length = 16) :
    (∀ p (hp : p < 9), (J.cells tb mb)[p]? = some (.int .i64 (J.told[p]'(by omega)))) ∧ (∀ p (hp : p < 16), (J.cells tb mb)[9 + p]? = some (.int .i64 (J.next[p]'(by omega)))) ∧
    (J.cells tb mb)[25]? = some (.int .i64 J.broken) ∧ (J.cells tb mb)[26]? = some (.int .i64 J.n) ∧ (J.cells tb mb)[27]? = some (.int .i64 J.m) ∧ (J.cells tb mb)[28]? = some (.pointer (some ⟨tb, 0, none⟩)) ∧ (J.cells tb mb)[29]? = some (.map (some mb)) := by
  have a1 : (J.told.map iV).length = 9 := by rw [List.length_map, h9]
  have a2 : (J.next.map iV).length = 16 := by rw [List.length_map, h16]
  have key : ∀ j, (J.cells tb mb)[25 + j]? = ([Value.int .i64 J.broken, .int .i64 J.n, .int .i64 J.m, .pointer (some ⟨tb, 0, none⟩), .map (some mb)] : List Value)[j]? := by
    intro j
    unfold JA.cells
    rw [List.getElem?_append_right (by omega), List.getElem?_append_right (by omega), a1, a2]
    congr 1
    omega
  refine ⟨fun p hp => ?_, fun p hp => ?_, key 0, key 1, key 2, key 3, key 4⟩
  · unfold JA.cells
    rw [List.getElem?_append_left (by omega), List.getElem?_map, List.getElem?_eq_getElem (by omega)]; rfl
  · unfold JA.cells
    rw [List.getElem?_append_right (by omega), List.getElem?_append_left (by omega), a1, List.getElem?_map, List.getElem?_eq_getElem (by omega)]
    simp [iV]
theorem JudgeAt.see (h : JudgeAt w F Ft b tb mb J) : w.cell? ⟨b, 25, none⟩ = some (.int .i64 J.broken) ∧ w.cell? ⟨b, 26, none⟩ = some (.int .i64 J.n) ∧ w.cell? ⟨b, 27, none⟩ = some (.int .i64 J.m) ∧ w.cell? ⟨b, 28, none⟩ = some (.pointer (some ⟨tb, 0, none⟩)) ∧ w.cell? ⟨b, 29, none⟩ = some (.map (some mb)) ∧ b < w.heap.size := by
  obtain ⟨_, _, h1, h2, h3, h4, h5⟩ := J.at tb mb h.l9 h.l16
  have hr := h.box.reads.1
  exact ⟨(hr _).trans h1, (hr _).trans h2, (hr _).trans h3, (hr _).trans h4, (hr _).trans h5, h.box.lt⟩
end
theorem judge_none {F : Nat → Prop} (w : World) (b : Nat) (J : JA) (h : JudgeX w F b J) : Calls Tryd.prog 27 #[.pointer (some ⟨b, 0, none⟩)] w fun e w' => e = .returned (.bool false) ∧ w' = w := by
  obtain ⟨Ft, tb, mb, h⟩ := h
  obtain ⟨c25, c26, c27, c28, c29, lt⟩ := h.see
  clear h
  go_enter Tryd.func27, Tryd.ntmps27
  go_wp2_with fail
  go_ret
  exact ⟨rfl, rfl⟩
theorem judge_broken {F : Nat → Prop} (w : World) (b : Nat) (J : JA) (h : JudgeX w F b J) : Calls Tryd.prog 22 #[.pointer (some ⟨b, 0, none⟩)] w fun e w' => e = .returned (.int .i64 J.broken) ∧ w' = w := by
  have HX := Lib.hid h
  clear h
  go_enter Tryd.func22, Tryd.ntmps22
  go_wp2_with fail
  refine (judge_none w b J HX.out).mono ?_
  rintro e w' ⟨rfl, rfl⟩
  obtain ⟨Ft, tb, mb, h⟩ := HX.out
  obtain ⟨c25, c26, c27, c28, c29, lt⟩ := h.see
  clear h
  go_wp2_with fail
  go_ret
  exact ⟨rfl, rfl⟩
end Go.Proofs.YthhdgjofagdjeaaDoor
