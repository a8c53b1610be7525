/- A talk in memory, and what is asked of it without turning it. Condition: it lies as 'TalkAt' says. -/
import Derived.Test.YthhdgjofagdjeaaDoorJC
import Derived.Test.YthhdgjofagdjeaaDoorWin
import Derived.Test.YthhdgjofagdjeaaDoorRowsS
import Derived.Test.YthhdgjofagdjeaaDoorStopS
set_option linter.unusedVariables false
set_option linter.unusedSimpArgs false
set_option maxHeartbeats 400000
set_option maxRecDepth 10000
namespace Go.Proofs.YthhdgjofagdjeaaDoor
open Go.RowKit

structure St where
  inn : Bool
  joined : Int
  last : Int
deriving DecidableEq
structure Ln where
  idx : Int
  slot : Int
  e : En
deriving DecidableEq
structure TA where
  l : List Ln
  slot : Int
  st : List St
def St.cells (s : St) : List Value := [.bool s.inn, .int .i64 s.joined, .int .i64 s.last]
def St.v (s : St) : Value := .agg #[.bool s.inn, .int .i64 s.joined, .int .i64 s.last]
def Ln.cells (x : Ln) : List Value := [.int .i64 x.idx, .int .i64 x.slot, .int .i64 x.e.kind, .int .i64 x.e.member, .int .i64 x.e.number, .string (bs x.e.text)]
def Ln.v (x : Ln) : Value := .agg #[.int .i64 x.idx, .int .i64 x.slot, .int .i64 x.e.kind, .int .i64 x.e.member, .int .i64 x.e.number, .string (bs x.e.text)]
def stsC (l : List St) : List Value := (l.map St.cells).flatten
def lnsC (l : List Ln) : List Value := (l.map Ln.cells).flatten
def TA.cells (T : TA) (v : Value) : List Value := v :: .int .i64 T.slot :: (stsC T.st ++ [.bool true])
theorem stsC_len (l : List St) : (stsC l).length = l.length * 3 := by
  unfold stsC
  rw [flat_len_uniform (sz := 3) _ (fun j h => by simp [St.cells]), List.length_map]
theorem lnsC_len (l : List Ln) : (lnsC l).length = l.length * 6 := by
  unfold lnsC
  rw [flat_len_uniform (sz := 6) _ (fun j h => by simp [Ln.cells]), List.length_map]
theorem stsC_get (l : List St) (j i : Nat) (hj : j < l.length) (hi : i < 3) : (stsC l)[j * 3 + i]? = (l[j].cells)[i]? := by
  unfold stsC
  rw [flat_get (sz := 3) _ j i (by simpa using hj) (fun j h => by simp [St.cells]) hi]
  simp
theorem lnsC_get (l : List Ln) (j i : Nat) (hj : j < l.length) (hi : i < 6) : (lnsC l)[j * 6 + i]? = (l[j].cells)[i]? := by
  unfold lnsC
  rw [flat_get (sz := 6) _ j i (by simpa using hj) (fun j h => by simp [Ln.cells]) hi]
  simp
structure TalkAt (w : World) (F : Nat → Prop) (b : Nat) (v : Value) (T : TA) : Prop where
  box : Box w b 93 (T.cells v)
  win : Win w 0 6 v T.l.length (lnsC T.l)
  fb : F b
  fv : ∀ g, v.ownBlock = some g → F g ∧ g ≠ b
  lt : ∀ k, F k → k < w.heap.size
  sts : T.st.length = 16
def TalkX (w : World) (F : Nat → Prop) (b : Nat) (T : TA) : Prop := ∃ v, TalkAt w F b v T
section
variable {w w' : World} {F F' S : Nat → Prop} {b : Nat} {v : Value} {T : TA}
theorem TalkAt.keeps (h : TalkAt w F b v T) (hk : Keeps S w w') (hS : ∀ k, F k → ¬ S k) : TalkAt w' F b v T :=
  ⟨h.box.keeps hk (hS b h.fb), h.win.keeps hk fun g hg => hS g (h.fv g hg).1, h.fb, h.fv, fun k hF => Nat.lt_of_lt_of_le (h.lt k hF) hk.size, h.sts⟩
theorem TalkX.keeps (h : TalkX w F b T) (hk : Keeps S w w') (hS : ∀ k, F k → ¬ S k) : TalkX w' F b T := let ⟨v, h⟩ := h; ⟨v, h.keeps hk hS⟩
theorem TalkX.ext (h : TalkX w F b T) (hk : Ext w w') : TalkX w' F b T := h.keeps hk fun _ _ => noB _
theorem TalkX.mono (h : TalkX w F b T) (hF : ∀ k, F k → F' k) (hlt : ∀ k, F' k → k < w.heap.size) : TalkX w F' b T :=
  let ⟨v, h⟩ := h; ⟨v, h.box, h.win, hF _ h.fb, fun g hg => ⟨hF _ (h.fv g hg).1, (h.fv g hg).2⟩, hlt, h.sts⟩
theorem TalkAt.see (h : TalkAt w F b v T) : w.cell? ⟨b, 0, none⟩ = some v ∧ w.cell? ⟨b, 1, none⟩ = some (.int .i64 T.slot) ∧ w.cell? ⟨b, 50, none⟩ = some (.bool true) ∧ b < w.heap.size := by
  have h1 := h.box.reads.1
  have hl := stsC_len T.st
  rw [h.sts] at hl
  refine ⟨h1 0, h1 1, ?_, h.box.lt⟩
  rw [h1 50]
  show ((stsC T.st ++ [.bool true]) : List Value)[48]? = _
  rw [List.getElem?_append_right (by omega), hl]
  rfl
theorem TalkAt.len (h : TalkAt w F b v T) : ∃ a c, v = .slice a T.l.length c := h.win.len
end

theorem talk_none {F : Nat → Prop} (w : World) (b : Nat) (T : TA) (h : TalkX w F b T) : Calls Tryd.prog 54 #[.pointer (some ⟨b, 0, none⟩)] w fun e w' => e = .returned (.bool false) ∧ w' = w := by
  obtain ⟨v, h⟩ := h
  obtain ⟨c0, c1, c50, lt⟩ := h.see
  clear h
  go_enter Tryd.func54, Tryd.ntmps54
  go_wp2_with fail
  go_ret
  exact ⟨rfl, rfl⟩
theorem talk_len1 {F : Nat → Prop} (w : World) (b : Nat) (T : TA) (h : TalkX w F b T) : Calls Tryd.prog 37 #[.pointer (some ⟨b, 0, none⟩)] w fun e w' => e = .returned (.int .i64 (T.l.length : Int)) ∧ w' = w := by
  obtain ⟨v, h⟩ := h
  obtain ⟨c0, c1, c50, lt⟩ := h.see
  obtain ⟨a, c, rfl⟩ := h.len
  clear h
  go_enter Tryd.func37, Tryd.ntmps37
  go_wp2_with fail
  go_ret
  exact ⟨rfl, rfl⟩
theorem talk_slot1 {F : Nat → Prop} (w : World) (b : Nat) (T : TA) (h : TalkX w F b T) : Calls Tryd.prog 68 #[.pointer (some ⟨b, 0, none⟩)] w fun e w' => e = .returned (.int .i64 T.slot) ∧ w' = w := by
  obtain ⟨v, h⟩ := h
  obtain ⟨c0, c1, c50, lt⟩ := h.see
  clear h
  go_enter Tryd.func68, Tryd.ntmps68
  go_wp2_with fail
  go_ret
  exact ⟨rfl, rfl⟩
theorem talk_len_told {F : Nat → Prop} (w : World) (b : Nat) (T : TA) (h : TalkX w F b T) : Calls Tryd.prog 36 #[.pointer (some ⟨b, 0, none⟩), .func (.func 37) #[] #[]] w fun e w' => e = .returned (.int .i64 (T.l.length : Int)) ∧ w' = w := by
  have HT := Lib.hid h
  clear h
  go_enter Tryd.func36, Tryd.ntmps36
  go_wp2_with fail
  refine (talk_none w b T HT.out).mono ?_
  rintro e w' ⟨rfl, rfl⟩
  go_wp2_with fail
  refine (talk_len1 _ b T HT.out).mono ?_
  rintro e w' ⟨rfl, rfl⟩
  go_wp2_with fail
  go_ret
  exact ⟨rfl, rfl⟩
theorem talk_len {F : Nat → Prop} (w : World) (b : Nat) (T : TA) (h : TalkX w F b T) : Calls Tryd.prog 17 #[.pointer (some ⟨b, 0, none⟩)] w fun e w' => e = .returned (.int .i64 (T.l.length : Int)) ∧ w' = w := by
  go_enter Tryd.func17, Tryd.ntmps17
  go_wp2_with fail
  refine (talk_len_told w b T h).mono ?_
  rintro e w' ⟨rfl, rfl⟩
  go_wp2_with fail
  go_ret
  exact ⟨rfl, rfl⟩
theorem talk_slot_told {F : Nat → Prop} (w : World) (b : Nat) (T : TA) (h : TalkX w F b T) : Calls Tryd.prog 67 #[.pointer (some ⟨b, 0, none⟩), .func (.func 68) #[] #[]] w fun e w' => e = .returned (.int .i64 T.slot) ∧ w' = w := by
  have HT := Lib.hid h
  clear h
  go_enter Tryd.func67, Tryd.ntmps67
  go_wp2_with fail
  refine (talk_none w b T HT.out).mono ?_
  rintro e w' ⟨rfl, rfl⟩
  go_wp2_with fail
  refine (talk_slot1 _ b T HT.out).mono ?_
  rintro e w' ⟨rfl, rfl⟩
  go_wp2_with fail
  go_ret
  exact ⟨rfl, rfl⟩
theorem talk_slot {F : Nat → Prop} (w : World) (b : Nat) (T : TA) (h : TalkX w F b T) : Calls Tryd.prog 48 #[.pointer (some ⟨b, 0, none⟩)] w fun e w' => e = .returned (.int .i64 T.slot) ∧ w' = w := by
  go_enter Tryd.func48, Tryd.ntmps48
  go_wp2_with fail
  refine (talk_slot_told w b T h).mono ?_
  rintro e w' ⟨rfl, rfl⟩
  go_wp2_with fail
  go_ret
  exact ⟨rfl, rfl⟩
end Go.Proofs.YthhdgjofagdjeaaDoor
