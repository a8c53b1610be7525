/- The chapter's rows of a judge: works() tells true. No condition. -/
import Derived.Test.YthhdgjofagdjeaaDoorJAB
set_option linter.unusedVariables false
set_option linter.unusedSimpArgs false
set_option maxHeartbeats 2000000
set_option maxRecDepth 10000
namespace Go.Proofs.YthhdgjofagdjeaaDoor
open Go.RowKit

theorem getD_set_le {l : List Int} {p q : Nat} {v n : Int} (h : l.getD q 0 ≤ n) (hv : v ≤ n) : (l.set p v).getD q 0 ≤ n := by
  rw [List.getD_eq_getElem?_getD] at h ⊢
  rw [List.getElem?_set]
  split
  · split
    · exact hv
    · rename_i h1 h2
      subst h1
      rw [List.getElem?_eq_none (by omega)] at h
      exact h
  · exact h
theorem OkJ.see {J : JA} (h : OkJ J) (x : Sn) : OkJ (seeR J x).1 := by
  have hk : OkJ (kindsR J x).1 := by
    obtain ⟨hn, hm, ht, hs, h4⟩ := h
    unfold kindsR
    split
    · unfold putR; split
      · exact ⟨hn, hm, ht, hs, h4⟩
      · exact ⟨hn, hm, ht, hs, h4⟩
    split
    · unfold lineR
      split
      · exact ⟨hn, hm, ht, hs, h4⟩
      rename_i hx
      split
      · split
        · exact ⟨hn, hm, fun p => getD_set_le (ht p) (show _ ≤ (J.T.l.length : Int) by omega), hs, h4⟩
        · exact ⟨hn, hm, ht, hs, h4⟩
      split
      · exact ⟨hn, hm, ht, hs, h4⟩
      split
      · rename_i hc
        have hl : (((J.T.put x.e).l.length : Nat) : Int) = (J.T.l.length : Int) + 1 := by unfold TA.put; simp
        have := ht x.who.toNat
        refine ⟨hn, hm, fun p => getD_set_le ?_ ?_, ?_, ?_⟩
        · have := ht p; dsimp only; omega
        · dsimp only; omega
        · dsimp only; rw [hl]; show _ ≤ J.T.slot + 1; omega
        · show J.T.slot + 1 ≤ 4096; omega
      · exact ⟨hn, hm, ht, hs, h4⟩
    split
    · unfold backR
      split
      · exact ⟨hn, hm, ht, hs, h4⟩
      split
      · exact ⟨hn, hm, ht, hs, h4⟩
      · exact ⟨hn, hm, fun p => getD_set_le (ht p) (show _ ≤ (J.T.l.length : Int) by omega), hs, h4⟩
    split
    · unfold beganR; repeat' split
      all_goals exact ⟨hn, hm, ht, hs, h4⟩
    split
    · unfold toldR; repeat' split
      all_goals exact ⟨hn, hm, ht, hs, h4⟩
    · unfold wentR; split
      all_goals exact ⟨hn, hm, ht, hs, h4⟩
  unfold seeR
  split
  · split
    · exact hk
    · exact ⟨hk.n, hk.m, hk.told, hk.slot, hk.slot4⟩
  · exact h
theorem OkJ.new {c m : Int} (hc : RightC c) (h2 : m ≤ 16) : OkJ (J0 c m) := by
  refine ⟨?_, h2, fun p => ?_, by show (0 : Int) ≤ 0; omega, by show (0 : Int) ≤ 4096; omega⟩
  · unfold RightC at hc; show c ≤ 9; omega
  · show (List.replicate 9 (0 : Int)).getD p 0 ≤ 0
    rw [List.getD_eq_getElem?_getD, List.getElem?_replicate]
    split <;> simp
def one : En := ⟨2, 1, 0, []⟩
def non : En := ⟨2, 0, 0, []⟩
def s1 : Sn := ⟨2, 0, 0, one⟩
def s2 : Sn := ⟨1, 1, 0, one⟩
def s4 : Sn := ⟨2, 1, 0, non⟩
def s6 : Sn := ⟨4, 1, 0, ⟨0, 0, 0, []⟩⟩
def s7 : Sn := ⟨5, 1, 0, one⟩
def s8 : Sn := ⟨5, 1, 1, non⟩
def Jw1 : JA := (seeR (J0 3 2) s1).1
def Jw2 : JA := (seeR Jw1 s2).1
def Jw3 : JA := (seeR Jw2 s1).1
def Jw4 : JA := (seeR Jw3 s4).1
def Jw5 : JA := (seeR Jw4 s1).1
def Jw6 : JA := (seeR Jw5 s6).1
def Jw7 : JA := (seeR Jw6 s7).1
def Jw8 : JA := (seeR Jw7 s8).1
theorem ew1 : (seeR (J0 3 2) s1).2 = 401 := by decide +kernel
theorem ew2 : (seeR Jw1 s2).2 = 0 := by decide +kernel
theorem ew3 : (seeR Jw2 s1).2 = 0 := by decide +kernel
theorem ew4 : (seeR Jw3 s4).2 = 400 := by decide +kernel
theorem ew5 : (seeR Jw4 s1).2 = 403 := by decide +kernel
theorem ew6 : (seeR Jw5 s6).2 = 0 := by decide +kernel
theorem ew7 : (seeR Jw6 s7).2 = 0 := by decide +kernel
theorem ew8 : (seeR Jw7 s8).2 = 405 := by decide +kernel
theorem ew9 : Jw8.broken = 4 := by decide +kernel
theorem works_any (w : World) : Calls Tryd.prog 9 #[] w fun r w' => r = .returned (.bool true) ∧ Ext w w' := by
  have HM := Lib.hid (Mem.start0 w)
  go_enter Tryd.func9, Tryd.ntmps9
  have fM := HM.out.facts
  simp only [List.filterMap_cons, List.filterMap_nil, cellsR_tag, winR_tag, factsL, apartL, and_true, List.cons_append, List.nil_append, talkR_tag, enR_tag, judgeR_tag] at fM
  go_wp2_with fail
  all_goals clear fM
  first | apply Mem.call | apply Mem.postD | apply Mem.stop | apply Mem.toUpd | apply Mem.list | apply Mem.code
  · repeat (first | with_reducible exact HM.out | with_reducible exact Pick.here | with_reducible apply Pick.there | with_reducible apply Mem.drew | with_reducible apply Mem.alloc | with_reducible apply Mem.set | with_reducible apply Mem.allocO | (simp only [World.size_alloc, World.size_setCell, World.size_drew]; with_reducible rfl) | with_reducible rfl)
  intro w0 M
  try simp only [List.set_cons_zero, List.set_cons_succ] at M
  replace HM := Lib.hid M
  clear M
  have ok0 : OkJ (J0 3 2) := OkJ.new (by unfold RightC; decide) (by decide)
  have ok1 : OkJ Jw1 := ok0.see _
  have ok2 : OkJ Jw2 := ok1.see _
  have ok3 : OkJ Jw3 := ok2.see _
  have ok4 : OkJ Jw4 := ok3.see _
  have ok5 : OkJ Jw5 := ok4.see _
  have ok6 : OkJ Jw6 := ok5.see _
  have ok7 : OkJ Jw7 := ok6.see _
  refine (judge_new_ok w0 3 2 (by unfold RightC; decide) (by decide) (by decide)).mono ?_
  rintro r w1 ⟨b, F, rfl, hJ, hE, hN⟩
  replace HM := Lib.hid (HM.out.new (r := judgeR b (J0 3 2)) hE hJ hN)
  clear hJ hE hN
  have fM := HM.out.facts
  simp only [List.filterMap_cons, List.filterMap_nil, cellsR_tag, winR_tag, factsL, apartL, and_true, List.cons_append, List.nil_append, talkR_tag, enR_tag, judgeR_tag] at fM
  go_wp2_with fail
  all_goals clear fM
  first | apply Mem.call | apply Mem.postD | apply Mem.stop | apply Mem.toUpd | apply Mem.list | apply Mem.code
  · repeat (first | with_reducible exact HM.out | with_reducible exact Pick.here | with_reducible apply Pick.there | with_reducible apply Mem.drew | with_reducible apply Mem.alloc | with_reducible apply Mem.set | with_reducible apply Mem.allocO | (simp only [World.size_alloc, World.size_setCell, World.size_drew]; with_reducible rfl) | with_reducible rfl)
  intro w2 M
  try simp only [List.set_cons_zero, List.set_cons_succ] at M
  replace HM := Lib.hid M
  clear M
  obtain ⟨A, hA, hS⟩ := (HM.out.pick (r := judgeR b (J0 3 2)) (by repeat (first | with_reducible exact Pick.here | with_reducible apply Pick.there))).step
  refine (see_any w2 b (J0 3 2) s1 hA ok0 (by unfold OkE I64; decide) (by unfold I64; decide) (by unfold I64; decide) (fun h => absurd h (by decide))).mono ?_
  rintro r w3 ⟨rfl, hU⟩
  rw [ew1]
  replace HM := Lib.hid (hS (judgeR b Jw1) _ hU)
  clear hU hA hS
  try clear A
  have fM := HM.out.facts
  simp only [List.filterMap_cons, List.filterMap_nil, cellsR_tag, winR_tag, factsL, apartL, and_true, List.cons_append, List.nil_append, talkR_tag, enR_tag, judgeR_tag] at fM
  go_wp2_with fail
  all_goals clear fM
  first | apply Mem.call | apply Mem.postD | apply Mem.stop | apply Mem.toUpd | apply Mem.list | apply Mem.code
  · repeat (first | with_reducible exact HM.out | with_reducible exact Pick.here | with_reducible apply Pick.there | with_reducible apply Mem.drew | with_reducible apply Mem.alloc | with_reducible apply Mem.set | with_reducible apply Mem.allocO | (simp only [World.size_alloc, World.size_setCell, World.size_drew]; with_reducible rfl) | with_reducible rfl)
  intro w2 M
  try simp only [List.set_cons_zero, List.set_cons_succ] at M
  replace HM := Lib.hid M
  clear M
  obtain ⟨A, hA, hS⟩ := (HM.out.pick (r := judgeR b Jw1) (by repeat (first | with_reducible exact Pick.here | with_reducible apply Pick.there))).step
  refine (see_any w2 b Jw1 s2 hA ok1 (by unfold OkE I64; decide) (by unfold I64; decide) (by unfold I64; decide) (fun h => absurd h (by decide))).mono ?_
  rintro r w3 ⟨rfl, hU⟩
  rw [ew2]
  replace HM := Lib.hid (hS (judgeR b Jw2) _ hU)
  clear hU hA hS
  try clear A
  have fM := HM.out.facts
  simp only [List.filterMap_cons, List.filterMap_nil, cellsR_tag, winR_tag, factsL, apartL, and_true, List.cons_append, List.nil_append, talkR_tag, enR_tag, judgeR_tag] at fM
  go_wp2_with fail
  all_goals clear fM
  first | apply Mem.call | apply Mem.postD | apply Mem.stop | apply Mem.toUpd | apply Mem.list | apply Mem.code
  · repeat (first | with_reducible exact HM.out | with_reducible exact Pick.here | with_reducible apply Pick.there | with_reducible apply Mem.drew | with_reducible apply Mem.alloc | with_reducible apply Mem.set | with_reducible apply Mem.allocO | (simp only [World.size_alloc, World.size_setCell, World.size_drew]; with_reducible rfl) | with_reducible rfl)
  intro w2 M
  try simp only [List.set_cons_zero, List.set_cons_succ] at M
  replace HM := Lib.hid M
  clear M
  obtain ⟨A, hA, hS⟩ := (HM.out.pick (r := judgeR b Jw2) (by repeat (first | with_reducible exact Pick.here | with_reducible apply Pick.there))).step
  refine (see_any w2 b Jw2 s1 hA ok2 (by unfold OkE I64; decide) (by unfold I64; decide) (by unfold I64; decide) (fun h => absurd h (by decide))).mono ?_
  rintro r w3 ⟨rfl, hU⟩
  rw [ew3]
  replace HM := Lib.hid (hS (judgeR b Jw3) _ hU)
  clear hU hA hS
  try clear A
  have fM := HM.out.facts
  simp only [List.filterMap_cons, List.filterMap_nil, cellsR_tag, winR_tag, factsL, apartL, and_true, List.cons_append, List.nil_append, talkR_tag, enR_tag, judgeR_tag] at fM
  go_wp2_with fail
  all_goals clear fM
  first | apply Mem.call | apply Mem.postD | apply Mem.stop | apply Mem.toUpd | apply Mem.list | apply Mem.code
  · repeat (first | with_reducible exact HM.out | with_reducible exact Pick.here | with_reducible apply Pick.there | with_reducible apply Mem.drew | with_reducible apply Mem.alloc | with_reducible apply Mem.set | with_reducible apply Mem.allocO | (simp only [World.size_alloc, World.size_setCell, World.size_drew]; with_reducible rfl) | with_reducible rfl)
  intro w2 M
  try simp only [List.set_cons_zero, List.set_cons_succ] at M
  replace HM := Lib.hid M
  clear M
  obtain ⟨A, hA, hS⟩ := (HM.out.pick (r := judgeR b Jw3) (by repeat (first | with_reducible exact Pick.here | with_reducible apply Pick.there))).step
  refine (see_any w2 b Jw3 s4 hA ok3 (by unfold OkE I64; decide) (by unfold I64; decide) (by unfold I64; decide) (fun h => absurd h (by decide))).mono ?_
  rintro r w3 ⟨rfl, hU⟩
  rw [ew4]
  replace HM := Lib.hid (hS (judgeR b Jw4) _ hU)
  clear hU hA hS
  try clear A
  have fM := HM.out.facts
  simp only [List.filterMap_cons, List.filterMap_nil, cellsR_tag, winR_tag, factsL, apartL, and_true, List.cons_append, List.nil_append, talkR_tag, enR_tag, judgeR_tag] at fM
  go_wp2_with fail
  all_goals clear fM
  first | apply Mem.call | apply Mem.postD | apply Mem.stop | apply Mem.toUpd | apply Mem.list | apply Mem.code
  · repeat (first | with_reducible exact HM.out | with_reducible exact Pick.here | with_reducible apply Pick.there | with_reducible apply Mem.drew | with_reducible apply Mem.alloc | with_reducible apply Mem.set | with_reducible apply Mem.allocO | (simp only [World.size_alloc, World.size_setCell, World.size_drew]; with_reducible rfl) | with_reducible rfl)
  intro w2 M
  try simp only [List.set_cons_zero, List.set_cons_succ] at M
  replace HM := Lib.hid M
  clear M
  obtain ⟨A, hA, hS⟩ := (HM.out.pick (r := judgeR b Jw4) (by repeat (first | with_reducible exact Pick.here | with_reducible apply Pick.there))).step
  refine (see_any w2 b Jw4 s1 hA ok4 (by unfold OkE I64; decide) (by unfold I64; decide) (by unfold I64; decide) (fun h => absurd h (by decide))).mono ?_
  rintro r w3 ⟨rfl, hU⟩
  rw [ew5]
  replace HM := Lib.hid (hS (judgeR b Jw5) _ hU)
  clear hU hA hS
  try clear A
  have fM := HM.out.facts
  simp only [List.filterMap_cons, List.filterMap_nil, cellsR_tag, winR_tag, factsL, apartL, and_true, List.cons_append, List.nil_append, talkR_tag, enR_tag, judgeR_tag] at fM
  go_wp2_with fail
  all_goals clear fM
  first | apply Mem.call | apply Mem.postD | apply Mem.stop | apply Mem.toUpd | apply Mem.list | apply Mem.code
  · repeat (first | with_reducible exact HM.out | with_reducible exact Pick.here | with_reducible apply Pick.there | with_reducible apply Mem.drew | with_reducible apply Mem.alloc | with_reducible apply Mem.set | with_reducible apply Mem.allocO | (simp only [World.size_alloc, World.size_setCell, World.size_drew]; with_reducible rfl) | with_reducible rfl)
  intro w2 M
  try simp only [List.set_cons_zero, List.set_cons_succ] at M
  replace HM := Lib.hid M
  clear M
  obtain ⟨A, hA, hS⟩ := (HM.out.pick (r := judgeR b Jw5) (by repeat (first | with_reducible exact Pick.here | with_reducible apply Pick.there))).step
  refine (see_any w2 b Jw5 s6 hA ok5 (by unfold OkE I64; decide) (by unfold I64; decide) (by unfold I64; decide) (fun h => absurd h (by decide))).mono ?_
  rintro r w3 ⟨rfl, hU⟩
  rw [ew6]
  replace HM := Lib.hid (hS (judgeR b Jw6) _ hU)
  clear hU hA hS
  try clear A
  have fM := HM.out.facts
  simp only [List.filterMap_cons, List.filterMap_nil, cellsR_tag, winR_tag, factsL, apartL, and_true, List.cons_append, List.nil_append, talkR_tag, enR_tag, judgeR_tag] at fM
  go_wp2_with fail
  all_goals clear fM
  first | apply Mem.call | apply Mem.postD | apply Mem.stop | apply Mem.toUpd | apply Mem.list | apply Mem.code
  · repeat (first | with_reducible exact HM.out | with_reducible exact Pick.here | with_reducible apply Pick.there | with_reducible apply Mem.drew | with_reducible apply Mem.alloc | with_reducible apply Mem.set | with_reducible apply Mem.allocO | (simp only [World.size_alloc, World.size_setCell, World.size_drew]; with_reducible rfl) | with_reducible rfl)
  intro w2 M
  try simp only [List.set_cons_zero, List.set_cons_succ] at M
  replace HM := Lib.hid M
  clear M
  obtain ⟨A, hA, hS⟩ := (HM.out.pick (r := judgeR b Jw6) (by repeat (first | with_reducible exact Pick.here | with_reducible apply Pick.there))).step
  refine (see_any w2 b Jw6 s7 hA ok6 (by unfold OkE I64; decide) (by unfold I64; decide) (by unfold I64; decide) (fun h => absurd h (by decide))).mono ?_
  rintro r w3 ⟨rfl, hU⟩
  rw [ew7]
  replace HM := Lib.hid (hS (judgeR b Jw7) _ hU)
  clear hU hA hS
  try clear A
  have fM := HM.out.facts
  simp only [List.filterMap_cons, List.filterMap_nil, cellsR_tag, winR_tag, factsL, apartL, and_true, List.cons_append, List.nil_append, talkR_tag, enR_tag, judgeR_tag] at fM
  go_wp2_with fail
  all_goals clear fM
  first | apply Mem.call | apply Mem.postD | apply Mem.stop | apply Mem.toUpd | apply Mem.list | apply Mem.code
  · repeat (first | with_reducible exact HM.out | with_reducible exact Pick.here | with_reducible apply Pick.there | with_reducible apply Mem.drew | with_reducible apply Mem.alloc | with_reducible apply Mem.set | with_reducible apply Mem.allocO | (simp only [World.size_alloc, World.size_setCell, World.size_drew]; with_reducible rfl) | with_reducible rfl)
  intro w2 M
  try simp only [List.set_cons_zero, List.set_cons_succ] at M
  replace HM := Lib.hid M
  clear M
  obtain ⟨A, hA, hS⟩ := (HM.out.pick (r := judgeR b Jw7) (by repeat (first | with_reducible exact Pick.here | with_reducible apply Pick.there))).step
  refine (see_any w2 b Jw7 s8 hA ok7 (by unfold OkE I64; decide) (by unfold I64; decide) (by unfold I64; decide) (fun h => absurd h (by decide))).mono ?_
  rintro r w3 ⟨rfl, hU⟩
  rw [ew8]
  replace HM := Lib.hid (hS (judgeR b Jw8) _ hU)
  clear hU hA hS
  try clear A
  have fM := HM.out.facts
  simp only [List.filterMap_cons, List.filterMap_nil, cellsR_tag, winR_tag, factsL, apartL, and_true, List.cons_append, List.nil_append, talkR_tag, enR_tag, judgeR_tag] at fM
  go_wp2_with fail
  all_goals clear fM
  first | apply Mem.call | apply Mem.postD | apply Mem.stop | apply Mem.toUpd | apply Mem.list | apply Mem.code
  · repeat (first | with_reducible exact HM.out | with_reducible exact Pick.here | with_reducible apply Pick.there | with_reducible apply Mem.drew | with_reducible apply Mem.alloc | with_reducible apply Mem.set | with_reducible apply Mem.allocO | (simp only [World.size_alloc, World.size_setCell, World.size_drew]; with_reducible rfl) | with_reducible rfl)
  intro w2 M
  try simp only [List.set_cons_zero, List.set_cons_succ] at M
  replace HM := Lib.hid M
  clear M
  refine (bound_any w2 3 4 0).mono ?_
  rintro r w3 ⟨rfl, hE⟩
  rw [show boundR 3 4 0 = .tuple #[.int .i64 432, .int .i64 0] by kernel_rfl]
  replace HM := Lib.hid (HM.out.ext hE)
  clear hE
  have fM := HM.out.facts
  simp only [List.filterMap_cons, List.filterMap_nil, cellsR_tag, winR_tag, factsL, apartL, and_true, List.cons_append, List.nil_append, talkR_tag, enR_tag, judgeR_tag] at fM
  go_wp2_with fail
  all_goals clear fM
  refine (num_any _ _).mono ?_
  rintro r wq ⟨rfl, hwq⟩
  rw [hwq]
  clear hwq wq
  have fM := HM.out.facts
  simp only [List.filterMap_cons, List.filterMap_nil, cellsR_tag, winR_tag, factsL, apartL, and_true, List.cons_append, List.nil_append, talkR_tag, enR_tag, judgeR_tag] at fM
  go_wp2_with fail
  all_goals clear fM
  refine (num_any _ _).mono ?_
  rintro r wq ⟨rfl, hwq⟩
  rw [hwq]
  clear hwq wq
  have fM := HM.out.facts
  simp only [List.filterMap_cons, List.filterMap_nil, cellsR_tag, winR_tag, factsL, apartL, and_true, List.cons_append, List.nil_append, talkR_tag, enR_tag, judgeR_tag] at fM
  go_wp2_with fail
  all_goals clear fM
  refine (num_any _ _).mono ?_
  rintro r wq ⟨rfl, hwq⟩
  rw [hwq]
  clear hwq wq
  have fM := HM.out.facts
  simp only [List.filterMap_cons, List.filterMap_nil, cellsR_tag, winR_tag, factsL, apartL, and_true, List.cons_append, List.nil_append, talkR_tag, enR_tag, judgeR_tag] at fM
  go_wp2_with fail
  all_goals clear fM
  refine (num_any _ _).mono ?_
  rintro r wq ⟨rfl, hwq⟩
  rw [hwq]
  clear hwq wq
  have fM := HM.out.facts
  simp only [List.filterMap_cons, List.filterMap_nil, cellsR_tag, winR_tag, factsL, apartL, and_true, List.cons_append, List.nil_append, talkR_tag, enR_tag, judgeR_tag] at fM
  go_wp2_with fail
  all_goals clear fM
  refine (num_any _ _).mono ?_
  rintro r wq ⟨rfl, hwq⟩
  rw [hwq]
  clear hwq wq
  have fM := HM.out.facts
  simp only [List.filterMap_cons, List.filterMap_nil, cellsR_tag, winR_tag, factsL, apartL, and_true, List.cons_append, List.nil_append, talkR_tag, enR_tag, judgeR_tag] at fM
  go_wp2_with fail
  all_goals clear fM
  refine (num_any _ _).mono ?_
  rintro r wq ⟨rfl, hwq⟩
  rw [hwq]
  clear hwq wq
  have fM := HM.out.facts
  simp only [List.filterMap_cons, List.filterMap_nil, cellsR_tag, winR_tag, factsL, apartL, and_true, List.cons_append, List.nil_append, talkR_tag, enR_tag, judgeR_tag] at fM
  go_wp2_with fail
  all_goals clear fM
  refine (num_any _ _).mono ?_
  rintro r wq ⟨rfl, hwq⟩
  rw [hwq]
  clear hwq wq
  have fM := HM.out.facts
  simp only [List.filterMap_cons, List.filterMap_nil, cellsR_tag, winR_tag, factsL, apartL, and_true, List.cons_append, List.nil_append, talkR_tag, enR_tag, judgeR_tag] at fM
  go_wp2_with fail
  all_goals clear fM
  refine (num_any _ _).mono ?_
  rintro r wq ⟨rfl, hwq⟩
  rw [hwq]
  clear hwq wq
  have fM := HM.out.facts
  simp only [List.filterMap_cons, List.filterMap_nil, cellsR_tag, winR_tag, factsL, apartL, and_true, List.cons_append, List.nil_append, talkR_tag, enR_tag, judgeR_tag] at fM
  go_wp2_with fail
  all_goals clear fM
  refine (num_any _ _).mono ?_
  rintro r wq ⟨rfl, hwq⟩
  rw [hwq]
  clear hwq wq
  have fM := HM.out.facts
  simp only [List.filterMap_cons, List.filterMap_nil, cellsR_tag, winR_tag, factsL, apartL, and_true, List.cons_append, List.nil_append, talkR_tag, enR_tag, judgeR_tag] at fM
  go_wp2_with fail
  all_goals clear fM
  refine (num_any _ _).mono ?_
  rintro r wq ⟨rfl, hwq⟩
  rw [hwq]
  clear hwq wq
  have fM := HM.out.facts
  simp only [List.filterMap_cons, List.filterMap_nil, cellsR_tag, winR_tag, factsL, apartL, and_true, List.cons_append, List.nil_append, talkR_tag, enR_tag, judgeR_tag] at fM
  go_wp2_with fail
  all_goals clear fM
  first | apply Mem.call | apply Mem.postD | apply Mem.stop | apply Mem.toUpd | apply Mem.list | apply Mem.code
  · repeat (first | with_reducible exact HM.out | with_reducible exact Pick.here | with_reducible apply Pick.there | with_reducible apply Mem.drew | with_reducible apply Mem.alloc | with_reducible apply Mem.set | with_reducible apply Mem.allocO | (simp only [World.size_alloc, World.size_setCell, World.size_drew]; with_reducible rfl) | with_reducible rfl)
  intro w4 M
  try simp only [List.set_cons_zero, List.set_cons_succ] at M
  replace HM := Lib.hid M
  clear M
  obtain ⟨Ahj, hj⟩ := HM.out.get (r := judgeR b Jw8) (by repeat (first | with_reducible exact Pick.here | with_reducible apply Pick.there))
  refine (judge_broken w4 b Jw8 hj).mono ?_
  rintro r wq ⟨rfl, hwq⟩
  rw [hwq, ew9]
  clear hwq wq
  have fM := HM.out.facts
  simp only [List.filterMap_cons, List.filterMap_nil, cellsR_tag, winR_tag, factsL, apartL, and_true, List.cons_append, List.nil_append, talkR_tag, enR_tag, judgeR_tag] at fM
  go_wp2_with fail
  all_goals clear fM
  go_ret
  exact ⟨rfl, HM.out.extTo⟩
end Go.Proofs.YthhdgjofagdjeaaDoor
