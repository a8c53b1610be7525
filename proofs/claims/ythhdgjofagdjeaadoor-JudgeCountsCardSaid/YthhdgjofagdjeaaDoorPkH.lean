/- Texts JAC, Shelf, TA, TB, TC, one behind the other. Conditions: as each says. -/
import Derived.Test.YthhdgjofagdjeaaDoorPkG
import Derived.Ground.NamesProg
import Derived.Shelf.Unicode.ValidAny
import Derived.Shelf.Strings.Trim
import Derived.Test.YthhdgjofagdjeaaDoorProg
section
/- The chapter's rows of a judge: works() tells true. No condition. -/
set_option linter.unusedVariables false
set_option linter.unusedSimpArgs false
set_option maxHeartbeats 2000000
set_option maxRecDepth 10000
namespace Go.Proofs.YthhdgjofagdjeaaDoor
open Go.RowKit

theorem getD_set_le {l : List Int} {p q : Nat} {v n : Int} (h : l.getD q 0 ≤ n) (hv : v ≤ n) : (l.set p v).getD q 0 ≤ n := by
  rw [List.getD_eq_getElem?_getD] at h ⊢
  rw [List.getElem?_set]
  split
  · split
    · exact hv
    · rename_i h1 h2
      subst h1
      rw [List.getElem?_eq_none (by omega)] at h
      exact h
  · exact h
theorem OkJ.see {J : JA} (h : OkJ J) (x : Sn) : OkJ (seeR J x).1 := by
  have hk : OkJ (kindsR J x).1 := by
    obtain ⟨hn, hm, ht, hs, h4⟩ := h
    unfold kindsR
    split
    · unfold putR; split
      · exact ⟨hn, hm, ht, hs, h4⟩
      · exact ⟨hn, hm, ht, hs, h4⟩
    split
    · unfold lineR
      split
      · exact ⟨hn, hm, ht, hs, h4⟩
      rename_i hx
      split
      · split
        · exact ⟨hn, hm, fun p => getD_set_le (ht p) (show _ ≤ (J.T.l.length : Int) by omega), hs, h4⟩
        · exact ⟨hn, hm, ht, hs, h4⟩
      split
      · exact ⟨hn, hm, ht, hs, h4⟩
      split
      · rename_i hc
        have hl : (((J.T.put x.e).l.length : Nat) : Int) = (J.T.l.length : Int) + 1 := by unfold TA.put; simp
        have := ht x.who.toNat
        refine ⟨hn, hm, fun p => getD_set_le ?_ ?_, ?_, ?_⟩
        · have := ht p; dsimp only; omega
        · dsimp only; omega
        · dsimp only; rw [hl]; show _ ≤ J.T.slot + 1; omega
        · show J.T.slot + 1 ≤ 4096; omega
      · exact ⟨hn, hm, ht, hs, h4⟩
    split
    · unfold backR
      split
      · exact ⟨hn, hm, ht, hs, h4⟩
      split
      · exact ⟨hn, hm, ht, hs, h4⟩
      · exact ⟨hn, hm, fun p => getD_set_le (ht p) (show _ ≤ (J.T.l.length : Int) by omega), hs, h4⟩
    split
    · unfold beganR; repeat' split
      all_goals exact ⟨hn, hm, ht, hs, h4⟩
    split
    · unfold toldR; repeat' split
      all_goals exact ⟨hn, hm, ht, hs, h4⟩
    · unfold wentR; split
      all_goals exact ⟨hn, hm, ht, hs, h4⟩
  unfold seeR
  split
  · split
    · exact hk
    · exact ⟨hk.n, hk.m, hk.told, hk.slot, hk.slot4⟩
  · exact h
theorem OkJ.new {c m : Int} (hc : RightC c) (h2 : m ≤ 16) : OkJ (J0 c m) := by
  refine ⟨?_, h2, fun p => ?_, by show (0 : Int) ≤ 0; omega, by show (0 : Int) ≤ 4096; omega⟩
  · unfold RightC at hc; show c ≤ 9; omega
  · show (List.replicate 9 (0 : Int)).getD p 0 ≤ 0
    rw [List.getD_eq_getElem?_getD, List.getElem?_replicate]
    split <;> simp
def one : En := ⟨2, 1, 0, []⟩
def non : En := ⟨2, 0, 0, []⟩
def s1 : Sn := ⟨2, 0, 0, one⟩
def s2 : Sn := ⟨1, 1, 0, one⟩
def s4 : Sn := ⟨2, 1, 0, non⟩
def s6 : Sn := ⟨4, 1, 0, ⟨0, 0, 0, []⟩⟩
def s7 : Sn := ⟨5, 1, 0, one⟩
def s8 : Sn := ⟨5, 1, 1, non⟩
def Jw1 : JA := (seeR (J0 3 2) s1).1
def Jw2 : JA := (seeR Jw1 s2).1
def Jw3 : JA := (seeR Jw2 s1).1
def Jw4 : JA := (seeR Jw3 s4).1
def Jw5 : JA := (seeR Jw4 s1).1
def Jw6 : JA := (seeR Jw5 s6).1
def Jw7 : JA := (seeR Jw6 s7).1
def Jw8 : JA := (seeR Jw7 s8).1
theorem ew1 : (seeR (J0 3 2) s1).2 = 401 := by decide +kernel
theorem ew2 : (seeR Jw1 s2).2 = 0 := by decide +kernel
theorem ew3 : (seeR Jw2 s1).2 = 0 := by decide +kernel
theorem ew4 : (seeR Jw3 s4).2 = 400 := by decide +kernel
theorem ew5 : (seeR Jw4 s1).2 = 403 := by decide +kernel
theorem ew6 : (seeR Jw5 s6).2 = 0 := by decide +kernel
theorem ew7 : (seeR Jw6 s7).2 = 0 := by decide +kernel
theorem ew8 : (seeR Jw7 s8).2 = 405 := by decide +kernel
theorem ew9 : Jw8.broken = 4 := by decide +kernel
theorem works_any (w : World) : Calls Tryd.prog 9 #[] w fun r w' => r = .returned (.bool true) ∧ Ext w w' := by
  have HM := Lib.hid (Mem.start0 w)
  go_enter Tryd.func9, Tryd.ntmps9
  have fM := HM.out.fa
  go_wp2_with fail
  all_goals clear fM
  refine nxt HM fun w0 M => ?_
  clear HM; have HM := M; clear M
  have ok0 : OkJ (J0 3 2) := OkJ.new (by unfold RightC; decide) (by decide)
  have ok1 : OkJ Jw1 := ok0.see _
  have ok2 : OkJ Jw2 := ok1.see _
  have ok3 : OkJ Jw3 := ok2.see _
  have ok4 : OkJ Jw4 := ok3.see _
  have ok5 : OkJ Jw5 := ok4.see _
  have ok6 : OkJ Jw6 := ok5.see _
  have ok7 : OkJ Jw7 := ok6.see _
  refine (judge_new_ok w0 3 2 (by unfold RightC; decide) (by decide) (by decide)).mono ?_
  rintro r w1 ⟨b, F, rfl, hJ, hE, hN⟩
  replace HM := Lib.hid (HM.out.new (r := judgeR b (J0 3 2)) hE hJ hN)
  clear hJ hE hN
  have fM := HM.out.fa
  go_wp2_with fail
  all_goals clear fM
  refine nxt HM fun w2 M => ?_
  clear HM; have HM := M; clear M
  obtain ⟨A, hA, hS⟩ := (HM.out.pick (r := judgeR b (J0 3 2)) (by with_reducible repeat first | exact ph | apply pt)).step
  refine (see_any w2 b (J0 3 2) s1 hA ok0 (by unfold OkE I64; decide) (by unfold I64; decide) (by unfold I64; decide) (fun h => absurd h (by decide))).mono ?_
  rintro r w3 ⟨rfl, hU⟩
  rw [ew1]
  replace HM := Lib.hid (hS (judgeR b Jw1) _ hU)
  clear hU hA hS
  try clear A
  have fM := HM.out.fa
  go_wp2_with fail
  all_goals clear fM
  refine nxt HM fun w2 M => ?_
  clear HM; have HM := M; clear M
  obtain ⟨A, hA, hS⟩ := (HM.out.pick (r := judgeR b Jw1) (by with_reducible repeat first | exact ph | apply pt)).step
  refine (see_any w2 b Jw1 s2 hA ok1 (by unfold OkE I64; decide) (by unfold I64; decide) (by unfold I64; decide) (fun h => absurd h (by decide))).mono ?_
  rintro r w3 ⟨rfl, hU⟩
  rw [ew2]
  replace HM := Lib.hid (hS (judgeR b Jw2) _ hU)
  clear hU hA hS
  try clear A
  have fM := HM.out.fa
  go_wp2_with fail
  all_goals clear fM
  refine nxt HM fun w2 M => ?_
  clear HM; have HM := M; clear M
  obtain ⟨A, hA, hS⟩ := (HM.out.pick (r := judgeR b Jw2) (by with_reducible repeat first | exact ph | apply pt)).step
  refine (see_any w2 b Jw2 s1 hA ok2 (by unfold OkE I64; decide) (by unfold I64; decide) (by unfold I64; decide) (fun h => absurd h (by decide))).mono ?_
  rintro r w3 ⟨rfl, hU⟩
  rw [ew3]
  replace HM := Lib.hid (hS (judgeR b Jw3) _ hU)
  clear hU hA hS
  try clear A
  have fM := HM.out.fa
  go_wp2_with fail
  all_goals clear fM
  refine nxt HM fun w2 M => ?_
  clear HM; have HM := M; clear M
  obtain ⟨A, hA, hS⟩ := (HM.out.pick (r := judgeR b Jw3) (by with_reducible repeat first | exact ph | apply pt)).step
  refine (see_any w2 b Jw3 s4 hA ok3 (by unfold OkE I64; decide) (by unfold I64; decide) (by unfold I64; decide) (fun h => absurd h (by decide))).mono ?_
  rintro r w3 ⟨rfl, hU⟩
  rw [ew4]
  replace HM := Lib.hid (hS (judgeR b Jw4) _ hU)
  clear hU hA hS
  try clear A
  have fM := HM.out.fa
  go_wp2_with fail
  all_goals clear fM
  refine nxt HM fun w2 M => ?_
  clear HM; have HM := M; clear M
  obtain ⟨A, hA, hS⟩ := (HM.out.pick (r := judgeR b Jw4) (by with_reducible repeat first | exact ph | apply pt)).step
  refine (see_any w2 b Jw4 s1 hA ok4 (by unfold OkE I64; decide) (by unfold I64; decide) (by unfold I64; decide) (fun h => absurd h (by decide))).mono ?_
  rintro r w3 ⟨rfl, hU⟩
  rw [ew5]
  replace HM := Lib.hid (hS (judgeR b Jw5) _ hU)
  clear hU hA hS
  try clear A
  have fM := HM.out.fa
  go_wp2_with fail
  all_goals clear fM
  refine nxt HM fun w2 M => ?_
  clear HM; have HM := M; clear M
  obtain ⟨A, hA, hS⟩ := (HM.out.pick (r := judgeR b Jw5) (by with_reducible repeat first | exact ph | apply pt)).step
  refine (see_any w2 b Jw5 s6 hA ok5 (by unfold OkE I64; decide) (by unfold I64; decide) (by unfold I64; decide) (fun h => absurd h (by decide))).mono ?_
  rintro r w3 ⟨rfl, hU⟩
  rw [ew6]
  replace HM := Lib.hid (hS (judgeR b Jw6) _ hU)
  clear hU hA hS
  try clear A
  have fM := HM.out.fa
  go_wp2_with fail
  all_goals clear fM
  refine nxt HM fun w2 M => ?_
  clear HM; have HM := M; clear M
  obtain ⟨A, hA, hS⟩ := (HM.out.pick (r := judgeR b Jw6) (by with_reducible repeat first | exact ph | apply pt)).step
  refine (see_any w2 b Jw6 s7 hA ok6 (by unfold OkE I64; decide) (by unfold I64; decide) (by unfold I64; decide) (fun h => absurd h (by decide))).mono ?_
  rintro r w3 ⟨rfl, hU⟩
  rw [ew7]
  replace HM := Lib.hid (hS (judgeR b Jw7) _ hU)
  clear hU hA hS
  try clear A
  have fM := HM.out.fa
  go_wp2_with fail
  all_goals clear fM
  refine nxt HM fun w2 M => ?_
  clear HM; have HM := M; clear M
  obtain ⟨A, hA, hS⟩ := (HM.out.pick (r := judgeR b Jw7) (by with_reducible repeat first | exact ph | apply pt)).step
  refine (see_any w2 b Jw7 s8 hA ok7 (by unfold OkE I64; decide) (by unfold I64; decide) (by unfold I64; decide) (fun h => absurd h (by decide))).mono ?_
  rintro r w3 ⟨rfl, hU⟩
  rw [ew8]
  replace HM := Lib.hid (hS (judgeR b Jw8) _ hU)
  clear hU hA hS
  try clear A
  have fM := HM.out.fa
  go_wp2_with fail
  all_goals clear fM
  refine nxt HM fun w2 M => ?_
  clear HM; have HM := M; clear M
  refine (bound_any w2 3 4 0).mono ?_
  rintro r w3 ⟨rfl, hE⟩
  rw [show boundR 3 4 0 = .tuple #[.int .i64 432, .int .i64 0] by kernel_rfl]
  replace HM := Lib.hid (HM.out.ext hE)
  clear hE
  have fM := HM.out.fa
  go_wp2_with fail
  all_goals clear fM
  refine (num_any _ _).mono ?_
  rintro r wq ⟨rfl, hwq⟩
  rw [hwq]
  clear hwq wq
  have fM := HM.out.fa
  go_wp2_with fail
  all_goals clear fM
  refine (num_any _ _).mono ?_
  rintro r wq ⟨rfl, hwq⟩
  rw [hwq]
  clear hwq wq
  have fM := HM.out.fa
  go_wp2_with fail
  all_goals clear fM
  refine (num_any _ _).mono ?_
  rintro r wq ⟨rfl, hwq⟩
  rw [hwq]
  clear hwq wq
  have fM := HM.out.fa
  go_wp2_with fail
  all_goals clear fM
  refine (num_any _ _).mono ?_
  rintro r wq ⟨rfl, hwq⟩
  rw [hwq]
  clear hwq wq
  have fM := HM.out.fa
  go_wp2_with fail
  all_goals clear fM
  refine (num_any _ _).mono ?_
  rintro r wq ⟨rfl, hwq⟩
  rw [hwq]
  clear hwq wq
  have fM := HM.out.fa
  go_wp2_with fail
  all_goals clear fM
  refine (num_any _ _).mono ?_
  rintro r wq ⟨rfl, hwq⟩
  rw [hwq]
  clear hwq wq
  have fM := HM.out.fa
  go_wp2_with fail
  all_goals clear fM
  refine (num_any _ _).mono ?_
  rintro r wq ⟨rfl, hwq⟩
  rw [hwq]
  clear hwq wq
  have fM := HM.out.fa
  go_wp2_with fail
  all_goals clear fM
  refine (num_any _ _).mono ?_
  rintro r wq ⟨rfl, hwq⟩
  rw [hwq]
  clear hwq wq
  have fM := HM.out.fa
  go_wp2_with fail
  all_goals clear fM
  refine (num_any _ _).mono ?_
  rintro r wq ⟨rfl, hwq⟩
  rw [hwq]
  clear hwq wq
  have fM := HM.out.fa
  go_wp2_with fail
  all_goals clear fM
  refine (num_any _ _).mono ?_
  rintro r wq ⟨rfl, hwq⟩
  rw [hwq]
  clear hwq wq
  have fM := HM.out.fa
  go_wp2_with fail
  all_goals clear fM
  refine nxt HM fun w4 M => ?_
  clear HM; have HM := M; clear M
  obtain ⟨Ahj, hj⟩ := HM.out.get (r := judgeR b Jw8) (by with_reducible repeat first | exact ph | apply pt)
  refine (judge_broken w4 b Jw8 hj).mono ?_
  rintro r wq ⟨rfl, hwq⟩
  rw [hwq, ew9]
  clear hwq wq
  have fM := HM.out.fa
  go_wp2_with fail
  all_goals clear fM
  go_ret
  exact ⟨rfl, HM.out.extTo⟩
end Go.Proofs.YthhdgjofagdjeaaDoor
end
section
/- What of Go's library this program holds, laid at its numbers (written by the kit's tools lay-shelf, lay-plain). No condition. -/
namespace Go.Proofs
open Go.Shelf
def Tryd.laysValid_ren : Go.Shelf.Ren := ⟨fun | 196 => 75 | 259 => 82 | n => n, fun | 9 => 9 | 4 => 4 | 3 => 3 | 5 => 5 | 12 => 12 | 119 => 138 | 0 => 0 | 46 => 142 | 139 => 141 | 138 => 140 | 53 => 151 | n => n, fun | 3 => 0 | 4 => 1 | n => n⟩
theorem Tryd.laysValid : Go.Proofs.Lays.n196 Tryd.prog Tryd.laysValid_ren := {
  mixed := by kernel_rfl
  f196 := Tryd.func75.trans (congrArg some (by kernel_rfl))
  f259 := Tryd.func82.trans (congrArg some (by kernel_rfl))
  t0 := Tryd.underlying0
  a0 := Tryd.isAgg0
  z0 := Tryd.sizeOf0
  v0 := Tryd.zeroValue0
  t3 := Tryd.underlying3
  a3 := Tryd.isAgg3
  z3 := Tryd.sizeOf3
  v3 := Tryd.zeroValue3
  t4 := Tryd.underlying4
  a4 := Tryd.isAgg4
  z4 := Tryd.sizeOf4
  v4 := Tryd.zeroValue4
  t5 := Tryd.underlying5
  a5 := Tryd.isAgg5
  z5 := Tryd.sizeOf5
  v5 := Tryd.zeroValue5
  t9 := Tryd.underlying9
  a9 := Tryd.isAgg9
  z9 := Tryd.sizeOf9
  v9 := Tryd.zeroValue9
  t12 := Tryd.underlying12
  a12 := Tryd.isAgg12
  z12 := Tryd.sizeOf12
  v12 := Tryd.zeroValue12
  t46 := Tryd.underlying142
  a46 := Tryd.isAgg142
  z46 := Tryd.sizeOf142
  v46 := Tryd.zeroValue142
  t53 := Tryd.underlying151
  a53 := Tryd.isAgg151
  z53 := Tryd.sizeOf151
  v53 := Tryd.zeroValue151
  t119 := Tryd.underlying138
  a119 := Tryd.isAgg138
  z119 := Tryd.sizeOf138
  t138 := Tryd.underlying140
  a138 := Tryd.isAgg140
  z138 := Tryd.sizeOf140
  v138 := Tryd.zeroValue140
  t139 := Tryd.underlying141
  a139 := Tryd.isAgg141
  z139 := Tryd.sizeOf141
  v139 := Tryd.zeroValue141
  g3 := by kernel_rfl
  g4 := by kernel_rfl }
def Tryd.laysTrim_ren : Go.Shelf.Ren := ⟨fun | 160 => 79 | 232 => 85 | 231 => 84 | 227 => 86 | 234 => 88 | 233 => 87 | 236 => 90 | 235 => 89 | 228 => 92 | 271 => 95 | 151 => 94 | 197 => 93 | 120 => 98 | 152 => 97 | 260 => 96 | 137 => 99 | 119 => 100 | 224 => 101 | 225 => 102 | 217 => 103 | 266 => 104 | n => n, fun | 9 => 9 | 4 => 4 | 3 => 3 | 5 => 5 | 117 => 146 | 116 => 145 | 0 => 0 | 124 => 149 | 21 => 21 | 105 => 152 | 46 => 142 | 119 => 138 | 139 => 141 | 138 => 140 | n => n, fun | 3 => 0 | 4 => 1 | n => n⟩
theorem Tryd.laysTrim : Go.Proofs.Lays.n160 Tryd.prog Tryd.laysTrim_ren := {
  mixed := by kernel_rfl
  f119 := Tryd.func100.trans (congrArg some (by kernel_rfl))
  f120 := Tryd.func98.trans (congrArg some (by kernel_rfl))
  f137 := Tryd.func99.trans (congrArg some (by kernel_rfl))
  f151 := Tryd.func94.trans (congrArg some (by kernel_rfl))
  f152 := Tryd.func97.trans (congrArg some (by kernel_rfl))
  f160 := Tryd.func79.trans (congrArg some (by kernel_rfl))
  f197 := Tryd.func93.trans (congrArg some (by kernel_rfl))
  f217 := Tryd.func103.trans (congrArg some (by kernel_rfl))
  f224 := Tryd.func101.trans (congrArg some (by kernel_rfl))
  f225 := Tryd.func102.trans (congrArg some (by kernel_rfl))
  f227 := Tryd.func86.trans (congrArg some (by kernel_rfl))
  f228 := Tryd.func92.trans (congrArg some (by kernel_rfl))
  f231 := Tryd.func84.trans (congrArg some (by kernel_rfl))
  f232 := Tryd.func85.trans (congrArg some (by kernel_rfl))
  f233 := Tryd.func87.trans (congrArg some (by kernel_rfl))
  f234 := Tryd.func88.trans (congrArg some (by kernel_rfl))
  f235 := Tryd.func89.trans (congrArg some (by kernel_rfl))
  f236 := Tryd.func90.trans (congrArg some (by kernel_rfl))
  f260 := Tryd.func96.trans (congrArg some (by kernel_rfl))
  f266 := Tryd.func104.trans (congrArg some (by kernel_rfl))
  f271 := Tryd.func95.trans (congrArg some (by kernel_rfl))
  t0 := Tryd.underlying0
  a0 := Tryd.isAgg0
  z0 := Tryd.sizeOf0
  v0 := Tryd.zeroValue0
  t3 := Tryd.underlying3
  a3 := Tryd.isAgg3
  z3 := Tryd.sizeOf3
  v3 := Tryd.zeroValue3
  t4 := Tryd.underlying4
  a4 := Tryd.isAgg4
  z4 := Tryd.sizeOf4
  v4 := Tryd.zeroValue4
  t5 := Tryd.underlying5
  a5 := Tryd.isAgg5
  z5 := Tryd.sizeOf5
  v5 := Tryd.zeroValue5
  t9 := Tryd.underlying9
  a9 := Tryd.isAgg9
  z9 := Tryd.sizeOf9
  v9 := Tryd.zeroValue9
  t21 := Tryd.underlying21
  a21 := Tryd.isAgg21
  z21 := Tryd.sizeOf21
  v21 := Tryd.zeroValue21
  t46 := Tryd.underlying142
  a46 := Tryd.isAgg142
  z46 := Tryd.sizeOf142
  v46 := Tryd.zeroValue142
  t105 := Tryd.underlying152
  a105 := Tryd.isAgg152
  z105 := Tryd.sizeOf152
  v105 := Tryd.zeroValue152
  t116 := Tryd.underlying145
  a116 := Tryd.isAgg145
  z116 := Tryd.sizeOf145
  t117 := Tryd.underlying146
  a117 := Tryd.isAgg146
  z117 := Tryd.sizeOf146
  v117 := Tryd.zeroValue146
  t119 := Tryd.underlying138
  a119 := Tryd.isAgg138
  z119 := Tryd.sizeOf138
  t124 := Tryd.underlying149
  a124 := Tryd.isAgg149
  z124 := Tryd.sizeOf149
  v124 := Tryd.zeroValue149
  t138 := Tryd.underlying140
  a138 := Tryd.isAgg140
  z138 := Tryd.sizeOf140
  v138 := Tryd.zeroValue140
  t139 := Tryd.underlying141
  a139 := Tryd.isAgg141
  z139 := Tryd.sizeOf141
  v139 := Tryd.zeroValue141
  g3 := by kernel_rfl
  g4 := by kernel_rfl }
end Go.Proofs
end
section
/- What may be wrong with a text (package text): each fault's question, and Check. Condition: unicode/utf8's two tables read as their initialisers lay them. -/
set_option linter.unusedVariables false
set_option linter.unusedSimpArgs false
set_option maxHeartbeats 2000000
set_option maxRecDepth 10000
namespace Go.Proofs.YthhdgjofagdjeaaDoor
open Go.RowKit Go.Shelf

/-- unicode/utf8's tables read as they are laid -/
def Tabs (w : World) : Prop := Lib.Utf8Tabs (Tryd.laysValid_ren.g 3) (Tryd.laysValid_ren.g 4) w
theorem valid_any (w : World) (s : ByteArray) (hs : s.size ≤ 9223372036854775807) (hT : Tabs w) :
    Calls Tryd.prog 75 #[.string s] w fun e w' => e = .returned (.bool (Lib.validD s.data.toList)) ∧ Ext w w' :=
  (Any.utf8_ValidString Tryd.laysValid s w hs hT).mono fun e w' ⟨a, b⟩ => ⟨a, Ext.of_below b⟩
theorem trim_any (w : World) (s : ByteArray) (hs : s.size ≤ 9223372036854775807) :
    Calls Tryd.prog 79 #[.string s, .string ⟨#[32]⟩] w fun e w' => e = .returned (.string ⟨(Lib.trimB s.data.toList 32).toArray⟩) ∧ Ext w w' :=
  (Any.strings_Trim_one Tryd.laysTrim s 32 (by decide) w hs).mono fun e w' ⟨a, b⟩ => ⟨a, by
    rcases b with rfl | rfl
    · exact Keeps.refl _ _
    · exact Ext.drew0 _⟩
theorem long_any (w : World) (s : ByteArray) : Calls Tryd.prog 73 #[.string s] w fun e w' => e = .returned (.bool (decide (200 < s.size))) ∧ w' = w := by
  go_enter Tryd.func73, Tryd.ntmps73
  go_wp2_with fail
  go_ret
  simp
  omega
theorem broken_any (w : World) (s : ByteArray) (hs : s.size ≤ 9223372036854775807) (hT : Tabs w) : Calls Tryd.prog 74 #[.string s] w fun e w' => e = .returned (.bool (!Lib.validD s.data.toList)) ∧ Ext w w' := by
  have HT := Lib.hid hT
  clear hT
  go_enter Tryd.func74, Tryd.ntmps74
  go_wp2_with fail
  refine (valid_any _ s hs HT.out).mono ?_
  rintro e w' ⟨rfl, hE⟩
  have HE := Lib.hid hE
  clear hE
  go_wp2_with fail
  go_ret
  exact ⟨by simp, HE.out⟩
def badR (r : Nat) : Bool := decide (r < 32) || (decide (127 ≤ r) && decide (r < 160))
theorem rune_any (w : World) (r : Nat) : Calls Tryd.prog 77 #[.int .i32 r] w fun e w' => e = .returned (.bool (badR r)) ∧ w' = w := by
  by_cases h1 : r < 32
  · have g1 : (r : Int) < 32 := by omega
    go_enter Tryd.func77, Tryd.ntmps77
    go_wp2_with fail
    go_ret
    simp [badR, h1]
  · have g1 : ¬ (r : Int) < 32 := by omega
    by_cases h2 : 127 ≤ r
    · have g2 : (127 : Int) ≤ (r : Int) := by omega
      go_enter Tryd.func77, Tryd.ntmps77
      go_wp2_with fail
      go_ret
      simp [badR, h1, h2]
      omega
    · have g2 : ¬ (127 : Int) ≤ (r : Int) := by omega
      go_enter Tryd.func77, Tryd.ntmps77
      go_wp2_with fail
      go_ret
      simp [badR, h1, h2]
theorem badR_eq (x : Sg) : x.bad = badR x.n := by
  unfold Sg.bad badR
  congr 2
  exact decide_eq_decide.2 (by omega)
def badsF (l : List UInt8) (f p : Nat) : Bool := (signsF l f p).any (·.bad)
theorem bad_any (w : World) (c : Nat) (s : ByteArray) (hs : s.size ≤ 9223372036854775807) (hB : Box w c 131 [.func (.func 77) #[] #[]]) :
    Calls Tryd.prog 83 #[.string s, .pointer (some ⟨c, 0, none⟩)] w fun e w' => e = .returned (.bool (badsF s.data.toList s.size 0)) ∧ Ext w w' := by
  have HB := Lib.hid hB
  clear hB
  go_enter Tryd.func83, Tryd.ntmps83
  go_wp2_with fail
  have HE0 := Lib.hid ((Keeps.refl NoB w).alloc (.stringIter s 0))
  go_loopw [5] (fun r wr => ∃ (pos f : Nat), wr = w.iter s pos ∧ badsF s.data.toList f pos = badsF s.data.toList s.size 0 ∧ s.size ≤ pos + f) (fun _ wr => s.size - wr.iterPos w.heap.size)
  case atStart => exact ⟨0, s.size, rfl, rfl, by omega⟩
  case round =>
    obtain ⟨pos, f, rfl, hc, hf⟩ := hrel
    have hBx := (HB.out.ext ((Keeps.refl NoB w).alloc (.stringIter s pos)) : Box (w.iter s pos) _ _ _)
    have hlt := HB.out.lt
    by_cases hp : pos < s.size
    · have hnx : ∀ ty, (Instr.next (.pointer (some ⟨w.heap.size, 0, none⟩)) true ty).run Tryd.prog (w.iter s pos) = _ := fun ty => run_next_any w s pos ty hp
      have hb2 := (HB.out.ext ((Keeps.refl NoB w).alloc (.stringIter s (pos + (Utf8.decode s pos).2))) : Box (w.iter s (pos + (Utf8.decode s pos).2)) _ _ _)
      obtain ⟨f1, z1⟩ := hb2.reads
      clear hBx hb2
      have hw1 : 1 ≤ (Utf8.decode s pos).2 := by rw [← Lib.decodeL_drop]; exact decodeL_pos _
      obtain ⟨f, rfl⟩ : ∃ g, f = g + 1 := ⟨f - 1, by omega⟩
      have hstep : badsF s.data.toList (f + 1) pos = (badR (Utf8.decode s pos).1 || badsF s.data.toList f (pos + (Utf8.decode s pos).2)) := by
        unfold badsF
        rw [signsF_step _ _ _ hp, List.any_cons, badR_eq, Lib.decodeL_drop]
      rw [hstep] at hc
      have HC := Lib.hid hc
      have HW := Lib.hid hw1
      have HF := Lib.hid hf
      clear hstep hc hw1 hf
      go_wp2_with fail
      refine (rune_any _ _).mono ?_
      rintro e w' ⟨rfl, hw⟩
      rw [hw]
      clear hw w'
      cases hb : badR (Utf8.decode s pos).1
      · go_wp2_with fail
        go_roundw
        case rel =>
          have := HC.out
          rw [hb, Bool.false_or] at this
          exact ⟨_, f, rfl, this, by have := HF.out; have := HW.out; omega⟩
        case measure =>
          have := HW.out
          simp
          omega
      · go_wp2_with fail
        go_ret
        refine ⟨?_, (Keeps.refl NoB w).alloc _⟩
        have := HC.out
        rw [hb, Bool.true_or] at this
        rw [← this]
        rfl
    · have hnx : ∀ ty, (Instr.next (.pointer (some ⟨w.heap.size, 0, none⟩)) true ty).run Tryd.prog (w.iter s pos) = _ := fun ty => run_next_end w s pos ty hp
      have hend : badsF s.data.toList f pos = false := by unfold badsF; rw [signsF_end _ _ _ hp]; rfl
      rw [hend] at hc
      have HC := Lib.hid hc
      clear hend hc hBx
      go_wp2_with fail
      go_ret
      exact ⟨by rw [← HC.out]; rfl, (Keeps.refl NoB w).alloc _⟩
/-- the question on blanks -/
def blankR (l : List UInt8) : Bool := l.isEmpty || decide (Lib.trimB l 32 ≠ l)
theorem blank_any (w : World) (l : List UInt8) (hs : l.length ≤ 9223372036854775807) : Calls Tryd.prog 78 #[.string (bs l)] w fun e w' => e = .returned (.bool (blankR l)) ∧ Ext w w' := by
  have e1 := bs_toList l
  by_cases h0 : l = []
  · subst h0
    go_enter Tryd.func78, Tryd.ntmps78
    go_wp2_with fail
    go_ret
    exact ⟨rfl, Keeps.refl _ _⟩
  · have hd := bs_data l
    have hsz : (bs l).size ≤ 9223372036854775807 := by rw [Lib.size_eq, hd]; exact hs
    have hn : l.isEmpty = false := by cases l; exact absurd rfl h0; rfl
    have HD := Lib.hid hd
    have HN := Lib.hid hn
    clear hd hn hs
    have e2 := bs_toList (Lib.trimB l 32)
    by_cases ht : Lib.trimB l 32 = l
    · have HT := Lib.hid ht
      go_enter Tryd.func78, Tryd.ntmps78
      go_wp2_with fail
      refine (trim_any _ _ hsz).mono ?_
      rintro e w' ⟨rfl, hE⟩
      rw [HD.out, HT.out]
      have HE := Lib.hid hE
      clear hE ht e2
      go_wp2_with fail
      go_ret
      exact ⟨by simp [blankR, HN.out, HT.out], HE.out⟩
    · have HT := Lib.hid ht
      go_enter Tryd.func78, Tryd.ntmps78
      go_wp2_with fail
      refine (trim_any _ _ hsz).mono ?_
      rintro e w' ⟨rfl, hE⟩
      rw [HD.out, show (⟨(Lib.trimB l 32).toArray⟩ : ByteArray) = bs (Lib.trimB l 32) from rfl]
      have HE := Lib.hid hE
      clear hE
      go_wp2_with fail
      go_ret
      exact ⟨by simp [blankR, HN.out, HT.out], HE.out⟩
end Go.Proofs.YthhdgjofagdjeaaDoor
end
section
/- text.Check tells what is wrong with a text: the number that 'chk' tells. Condition: unicode/utf8's two tables read as their initialisers lay them. -/
set_option linter.unusedVariables false
set_option linter.unusedSimpArgs false
set_option maxHeartbeats 2000000
set_option maxRecDepth 10000
namespace Go.Proofs.YthhdgjofagdjeaaDoor
open Go.RowKit Go.Shelf

theorem Tabs.ext {w w' : World} (h : Tabs w) (e : Ext w w') : Tabs w' := Utf8Tabs_below h ⟨e.os, e.tape, e.output, e.size, fun k hk => e.block k hk (noB k)⟩
theorem made_bad (w : World) : Calls Tryd.prog 76 #[.func (.func 77) #[] #[]] w fun r w' => r = .returned (.func (.func 83) #[] #[.pointer (some ⟨w.heap.size, 0, none⟩)]) ∧ w' = w.alloc (.cells #[.func (.func 77) #[] #[]] 131) := by
  go_enter Tryd.func76, Tryd.ntmps76
  go_wp2_with fail
  go_ret
  exact ⟨rfl, rfl⟩
/-- text.Check as it asks -/
def chkR (l : List UInt8) : Nat := if 200 < l.length then 3 else if Lib.validD l = false then 130 else if badsF l l.length 0 = true then 131 else if blankR l = true then 132 else 0
theorem check_text (W w : World) (hT : Tabs W) (hE : Ext W w) (l : List UInt8) (hs : l.length ≤ 9223372036854775807) :
    Calls Tryd.prog 65 #[.string (bs l)] w fun r w' => r = .returned (.int .i64 (chkR l : Int)) ∧ Ext w w' := by
  have HM := Lib.hid (Mem.start0 w)
  have HT := Lib.hid (hT.ext hE)
  have HS := Lib.hid hs
  clear hT hE hs
  go_enter Tryd.func65, Tryd.ntmps65
  have fM := HM.out.fa
  go_wp2_with fail
  all_goals clear fM
  refine (made_bad _).mono ?_
  rintro r w1 ⟨rfl, rfl⟩
  have fM := HM.out.fa
  go_wp2_with fail
  all_goals clear fM
  refine nxt HM fun w1 M => ?_
  clear HM; have HM := M; clear M
  refine wp_loop_rounds 5 ?_
  rw [rounds_succ]
  have fM := HM.out.fa
  go_wp2_with fail
  all_goals clear fM
  refine nxt HM fun w2 M => ?_
  clear HM; have HM := M; clear M
  refine (long_any _ _).mono ?_
  rintro r wq ⟨rfl, hwq⟩
  rw [hwq, bs_size]
  clear hwq wq
  by_cases h1 : 200 < l.length
  · have HQ := Lib.hid (show chkR l = 3 by unfold chkR; rw [if_pos h1])
    rw [decide_eq_true h1]
    have fM := HM.out.fa
    go_wp2_with fail
    all_goals clear fM
    go_ret
    exact ⟨by rw [HQ.out]; rfl, HM.out.extTo⟩
  rw [decide_eq_false h1]
  have H1 := Lib.hid h1
  clear h1
  have fM := HM.out.fa
  go_wp2_with fail
  all_goals clear fM
  rw [rounds_succ]
  have fM := HM.out.fa
  go_wp2_with fail
  all_goals clear fM
  refine nxt HM fun w3 M => ?_
  clear HM; have HM := M; clear M
  refine (broken_any _ _ (by rw [bs_size]; exact HS.out) (HT.out.ext HM.out.extTo)).mono ?_
  rintro r w4 ⟨rfl, hE⟩
  replace HM := Lib.hid (HM.out.ext hE)
  clear hE
  rw [bs_data]
  cases h2 : Lib.validD l
  · have HQ := Lib.hid (show chkR l = 130 by unfold chkR; rw [if_neg H1.out, if_pos h2])
    clear h2
    rw [Bool.not_false]
    have fM := HM.out.fa
    go_wp2_with fail
    all_goals clear fM
    go_ret
    exact ⟨by rw [HQ.out]; rfl, HM.out.extTo⟩
  have H2 := Lib.hid h2
  clear h2
  rw [Bool.not_true]
  have fM := HM.out.fa
  go_wp2_with fail
  all_goals clear fM
  rw [rounds_succ]
  have fM := HM.out.fa
  go_wp2_with fail
  all_goals clear fM
  refine nxt HM fun w5 M => ?_
  clear HM; have HM := M; clear M
  obtain ⟨Ahb, hb⟩ := HM.out.get (r := cellsR w.heap.size 131 [.func (.func 77) #[] #[]]) (by with_reducible repeat first | exact ph | apply pt)
  refine (bad_any _ _ _ (by rw [bs_size]; exact HS.out) hb.2).mono ?_
  rintro r w6 ⟨rfl, hE⟩
  replace HM := Lib.hid (HM.out.ext hE)
  clear hE hb
  try clear Ahb
  rw [bs_data, bs_size]
  cases h3 : badsF l l.length 0
  case true =>
    have HQ := Lib.hid (show chkR l = 131 by unfold chkR; rw [if_neg H1.out, if_neg (by rw [H2.out]; exact Bool.noConfusion), if_pos h3])
    clear h3
    have fM := HM.out.fa
    go_wp2_with fail
    all_goals clear fM
    go_ret
    exact ⟨by rw [HQ.out]; rfl, HM.out.extTo⟩
  have H3 := Lib.hid h3
  clear h3
  have fM := HM.out.fa
  go_wp2_with fail
  all_goals clear fM
  rw [rounds_succ]
  have fM := HM.out.fa
  go_wp2_with fail
  all_goals clear fM
  refine nxt HM fun w7 M => ?_
  clear HM; have HM := M; clear M
  refine (blank_any _ _ HS.out).mono ?_
  rintro r w8 ⟨rfl, hE⟩
  replace HM := Lib.hid (HM.out.ext hE)
  clear hE
  cases h4 : blankR l
  case true =>
    have HQ := Lib.hid (show chkR l = 132 by unfold chkR; rw [if_neg H1.out, if_neg (by rw [H2.out]; exact Bool.noConfusion), if_neg (by rw [H3.out]; exact Bool.noConfusion), if_pos h4])
    clear h4
    have fM := HM.out.fa
    go_wp2_with fail
    all_goals clear fM
    go_ret
    exact ⟨by rw [HQ.out]; rfl, HM.out.extTo⟩
  have HQ := Lib.hid (show chkR l = 0 by unfold chkR; rw [if_neg H1.out, if_neg (by rw [H2.out]; exact Bool.noConfusion), if_neg (by rw [H3.out]; exact Bool.noConfusion), if_neg (by rw [h4]; exact Bool.noConfusion)])
  clear h4
  have fM := HM.out.fa
  go_wp2_with fail
  all_goals clear fM
  rw [rounds_succ]
  have fM := HM.out.fa
  go_wp2_with fail
  all_goals clear fM
  go_ret
  exact ⟨by rw [HQ.out]; rfl, HM.out.extTo⟩
end Go.Proofs.YthhdgjofagdjeaaDoor
end
section
/- What text.Check tells is what the document tells: the signs of a text. No program is named here. -/
set_option linter.unusedVariables false
set_option linter.unusedSimpArgs false
set_option maxRecDepth 10000
namespace Go.Proofs.YthhdgjofagdjeaaDoor
open Go.RowKit Go.Shelf
theorem dropWhile_len (p : UInt8 → Bool) : ∀ l : List UInt8, (l.dropWhile p).length ≤ l.length
  | [] => Nat.le_refl _
  | x :: l => by
    rw [List.dropWhile_cons]
    split
    · have := dropWhile_len p l; rw [List.length_cons]; omega
    · exact Nat.le_refl _
theorem dropWhile_id (p : UInt8 → Bool) (l : List UInt8) : l.dropWhile p = l ↔ ∀ x, l.head? = some x → p x = false := by
  cases l with
  | nil => simp
  | cons y l =>
    rw [List.dropWhile_cons]
    constructor
    · intro h x hx
      obtain rfl : y = x := by simpa using hx
      cases hp : p y
      · rfl
      · rw [if_pos hp] at h
        have := dropWhile_len p l
        rw [h, List.length_cons] at this
        omega
    · intro h
      rw [if_neg (by rw [h y rfl]; exact Bool.noConfusion)]
theorem trim_id (l : List UInt8) : Lib.trimB l 32 = l ↔ l.head? ≠ some 32 ∧ l.getLast? ≠ some 32 := by
  unfold Lib.trimB Lib.trimLeftB Lib.trimRightB
  have k1 := dropWhile_len (fun x => x == 32) l.reverse
  have k2 := dropWhile_len (fun x => x == 32) (l.reverse.dropWhile (fun x => x == 32)).reverse
  constructor
  · intro h
    have hl := congrArg List.length h
    rw [List.length_reverse] at k1 k2
    have e1 : l.reverse.dropWhile (fun x => x == 32) = l.reverse := by
      have hs : (l.reverse.dropWhile (fun x => x == 32)).length = l.reverse.length := by rw [List.length_reverse]; omega
      exact (List.dropWhile_suffix _).eq_of_length hs
    rw [e1, List.reverse_reverse] at h
    constructor
    · intro hx
      have := (dropWhile_id _ _).1 h 32 hx
      simp at this
    · intro hx
      have := (dropWhile_id _ _).1 e1 32 (by rw [List.head?_reverse]; exact hx)
      simp at this
  · rintro ⟨h1, h2⟩
    have e1 : l.reverse.dropWhile (fun x => x == 32) = l.reverse := (dropWhile_id _ _).2 fun x hx => by
      rw [List.head?_reverse] at hx
      have : x ≠ 32 := fun e => h2 (by rw [hx, e])
      simpa using this
    rw [e1, List.reverse_reverse]
    exact (dropWhile_id _ _).2 fun x hx => by
      have : x ≠ 32 := fun e => h1 (by rw [hx, e])
      simpa using this
theorem blankR_eq (l : List UInt8) : blankR l = blankB l := by
  unfold blankR blankB
  have h := trim_id l
  by_cases h1 : l.head? = some 32
  · have : ¬ Lib.trimB l 32 = l := fun h2 => (h.1 h2).1 h1
    simp [h1, this]
  · by_cases h2 : l.getLast? = some 32
    · have : ¬ Lib.trimB l 32 = l := fun h3 => (h.1 h3).2 h2
      simp [h2, this]
    · have : Lib.trimB l 32 = l := h.2 ⟨h1, h2⟩
      rw [beq_eq_false_iff_ne.2 h1, beq_eq_false_iff_ne.2 h2]
      simp [this]
theorem chkR_eq (l : List UInt8) : chkR l = chk l := by
  unfold chkR chk
  have hv := valid_signs l l.length 0 (by omega)
  rw [List.drop_zero] at hv
  rw [blankR_eq, show badsF l l.length 0 = (signsL l).any (·.bad) from rfl]
  have hv' : Lib.validD l = !(signsL l).any (·.broken) := hv
  rw [hv']
  cases (signsL l).any (·.broken) <;> simp
theorem check_chk (W w : World) (hT : Tabs W) (hE : Ext W w) (l : List UInt8) (hs : l.length ≤ 9223372036854775807) :
    Calls Tryd.prog 65 #[.string (bs l)] w fun r w' => r = .returned (.int .i64 (chk l : Int)) ∧ Ext w w' := by
  rw [← chkR_eq]; exact check_text W w hT hE l hs
/-- what the condition on the tables gives -/
theorem tabs_of (W : World) (h : Tab W) : Tabs W := by
  have hL : laidMet Tryd.prog tables W := h
  exact utf8Tabs_of_readsT (U8Types.of196 Tryd.laysValid) ⟨by kernel_rfl, by kernel_rfl, by kernel_rfl, by kernel_rfl, by kernel_rfl, by kernel_rfl, by kernel_rfl⟩ (Lib.laidMet.reads hL (.tail _ (.head _))) (Lib.laidMet.reads hL (.head _))
end Go.Proofs.YthhdgjofagdjeaaDoor
end
