/- Texts YC, YD, YE, one behind the other. Conditions: as each says. -/
import Derived.Test.YthhdgjofagdjeaaGreatDoorPkM
import Derived.BigFrameIn
import Derived.BigGuardIn
section
/- What JudgeSees asks of judges: refused ones, the one that is none. Conditions: as each says. -/
set_option linter.unusedVariables false
set_option linter.unusedSimpArgs false
set_option maxHeartbeats 4000000
set_option maxRecDepth 100000
namespace Go.Proofs.YthhdgjofagdjeaaGreatDoor
open Go.RowKit
attribute [local go_sem] Oper.semAt_some
theorem seeR_nm (J : JA) (x : Sn) : (seeR J x).1.n = J.n ∧ (seeR J x).1.m = J.m := by
  have hk : (kindsR J x).1.n = J.n ∧ (kindsR J x).1.m = J.m := by
    unfold kindsR putR lineR backR beganR toldR wentR JA.putIn
    repeat' split
    all_goals exact ⟨rfl, rfl⟩
  unfold seeR
  split
  · split
    · exact hk
    · exact hk
  · exact ⟨rfl, rfl⟩
theorem sees_nm : ∀ (l : List Sn) (J : JA), (sees J l).n = J.n ∧ (sees J l).m = J.m
  | [], J => ⟨rfl, rfl⟩
  | x :: l, J => by
    have h1 := seeR_nm J x
    have h2 := sees_nm l (seeR J x).1
    exact ⟨h2.1.trans h1.1, h2.2.trans h1.2⟩
theorem sees_fits {c m : Int} (hc : RightC c) (h1 : 1 ≤ m) (h2 : m ≤ 16) (l : List Sn) : Fits (sees (J0 c m) l) := by
  have h := sees_ok l (J0 c m) (OkJ.new hc h2) T0_ok
  have h3 := sees_nm l (J0 c m)
  obtain ⟨a1, a2, a3, a4, a5⟩ := h.1
  have e1 : (J0 c m).n = c := rfl
  have e2 : (J0 c m).m = m := rfl
  unfold RightC at hc
  exact ⟨by omega, by omega, by omega, by omega, by omega⟩
theorem judge_new_bad (w : World) (c m : Int) (h : ¬ (RightC c ∧ 1 ≤ m ∧ m ≤ 16)) :
    Calls Tryz.prog 7 #[.int .i64 c, .int .i64 m] w fun e w' => e = .returned (.tuple #[.pointer none, .int .i64 2]) ∧ Ext w w' := by
  by_cases hc : RightC c
  · have HC := Lib.hid hc
    by_cases h1 : m < 1
    · clear h hc
      go_enter Tryz.func7, Tryz.ntmps7
      go_wp2_with fail
      refine (check_any w c).mono ?_
      rintro e w1 ⟨rfl, hE⟩
      have HE := Lib.hid hE
      clear hE
      rw [if_pos HC.out]
      go_wp2_with fail
      go_ret2
      exact ⟨rfl, HE.out⟩
    · have h2 : 16 < m := by
        by_cases h9 : 16 < m
        · exact h9
        · exact absurd ⟨hc, by omega, by omega⟩ h
      clear h hc
      go_enter Tryz.func7, Tryz.ntmps7
      go_wp2_with fail
      refine (check_any w c).mono ?_
      rintro e w1 ⟨rfl, hE⟩
      have HE := Lib.hid hE
      clear hE
      rw [if_pos HC.out]
      go_wp2_with fail
      go_ret2
      exact ⟨rfl, HE.out⟩
  · have HC := Lib.hid hc
    clear h hc
    go_enter Tryz.func7, Tryz.ntmps7
    go_wp2_with fail
    refine (check_any w c).mono ?_
    rintro e w1 ⟨rfl, hE⟩
    have HE := Lib.hid hE
    clear hE
    rw [if_neg HC.out]
    go_wp2_with fail
    go_ret2
    exact ⟨rfl, HE.out⟩
theorem build_rz (w : World) : (Instr.build 37 #[]).run Tryz.prog w = .ok (.agg zRJ.toArray) w := by kernel_rfl
theorem rnew_bad (w : World) (c m : Int) (h : ¬ (RightC c ∧ 1 ≤ m ∧ m ≤ 16)) :
    Calls Tryz.prog 8 #[.int .i64 c, .int .i64 m] w fun r w' => r = .returned (.tuple #[.agg zRJ.toArray, .int .i64 2]) ∧ Ext w w' := by
  by_cases hc : RightC c
  · have HC := Lib.hid hc
    by_cases h1 : m < 1
    · clear h hc
      have HM := Lib.hid (Mem.start0 w)
      have HLEN := Lib.hid (show zRJ.length = 31 from rfl)
      have HONE := Lib.hid zRJ_one
      have HWD : Wd _ _ := ⟨HLEN.out, HONE.out⟩
      go_enter Tryz.func8, Tryz.ntmps8
      have fM := HM.out.fa
      go_wp2_with (first
        | ((with_reducible refine at_list ?_); first
          | ((with_reducible refine at_load 37 _ rfl ?_); refine ldW 37 _ rfl rfl rfl HM.out Tryz.underlying37 rfl infoRJ ?_)
          | ((first
            | ((with_reducible refine at_store 37 _ _ rfl ?_); refine stW 37 _ _ rfl rfl rfl rfl HM.out infoRJ ?_; intro w9 M)
            | ((with_reducible refine at_box 37 _ rfl ?_); refine boW 37 _ rfl rfl rfl HM.out ?_; intro w9 n9 M)
            | ((with_reducible refine at_alloc 37 rfl ?_); refine alW 37 rfl rfl (zeroRJ _) HM.out ?_; intro w9 n9 M)); replace HM := Lib.hid M; clear M; clear fM; have fM := HM.out.fa)))
      all_goals clear fM
      refine (ref12_any _ c).mono ?_
      rintro r wq ⟨rfl, hwq⟩
      rw [hwq, decide_eq_true HC.out]
      clear hwq wq
      have fM := HM.out.fa
      go_wp2_with (first
        | ((with_reducible refine at_list ?_); first
          | ((with_reducible refine at_load 37 _ rfl ?_); refine ldW 37 _ rfl rfl rfl HM.out Tryz.underlying37 rfl infoRJ ?_)
          | ((first
            | ((with_reducible refine at_store 37 _ _ rfl ?_); refine stW 37 _ _ rfl rfl rfl rfl HM.out infoRJ ?_; intro w9 M)
            | ((with_reducible refine at_box 37 _ rfl ?_); refine boW 37 _ rfl rfl rfl HM.out ?_; intro w9 n9 M)
            | ((with_reducible refine at_alloc 37 rfl ?_); refine alW 37 rfl rfl (zeroRJ _) HM.out ?_; intro w9 n9 M)); replace HM := Lib.hid M; clear M; clear fM; have fM := HM.out.fa))
        | (refine wpList_build_wide 37 (v := .agg zRJ.toArray) rfl rfl (build_rz _) ?_))
      all_goals clear fM
      refine nxt HM fun w6 M => ?_
      clear HM; have HM := M; clear M
      refine bodyPost_ret (rtW 37 Tryz.results8 _ rfl HM.out Tryz.underlying37 rfl infoRJ) rfl ?_
      exact ⟨rfl, HM.out.extTo⟩
    · have h2 : 16 < m := by
        by_cases h9 : 16 < m
        · exact h9
        · exact absurd ⟨hc, by omega, by omega⟩ h
      clear h hc
      have HM := Lib.hid (Mem.start0 w)
      have HLEN := Lib.hid (show zRJ.length = 31 from rfl)
      have HONE := Lib.hid zRJ_one
      have HWD : Wd _ _ := ⟨HLEN.out, HONE.out⟩
      go_enter Tryz.func8, Tryz.ntmps8
      have fM := HM.out.fa
      go_wp2_with (first
        | ((with_reducible refine at_list ?_); first
          | ((with_reducible refine at_load 37 _ rfl ?_); refine ldW 37 _ rfl rfl rfl HM.out Tryz.underlying37 rfl infoRJ ?_)
          | ((first
            | ((with_reducible refine at_store 37 _ _ rfl ?_); refine stW 37 _ _ rfl rfl rfl rfl HM.out infoRJ ?_; intro w9 M)
            | ((with_reducible refine at_box 37 _ rfl ?_); refine boW 37 _ rfl rfl rfl HM.out ?_; intro w9 n9 M)
            | ((with_reducible refine at_alloc 37 rfl ?_); refine alW 37 rfl rfl (zeroRJ _) HM.out ?_; intro w9 n9 M)); replace HM := Lib.hid M; clear M; clear fM; have fM := HM.out.fa)))
      all_goals clear fM
      refine (ref12_any _ c).mono ?_
      rintro r wq ⟨rfl, hwq⟩
      rw [hwq, decide_eq_true HC.out]
      clear hwq wq
      have fM := HM.out.fa
      go_wp2_with (first
        | ((with_reducible refine at_list ?_); first
          | ((with_reducible refine at_load 37 _ rfl ?_); refine ldW 37 _ rfl rfl rfl HM.out Tryz.underlying37 rfl infoRJ ?_)
          | ((first
            | ((with_reducible refine at_store 37 _ _ rfl ?_); refine stW 37 _ _ rfl rfl rfl rfl HM.out infoRJ ?_; intro w9 M)
            | ((with_reducible refine at_box 37 _ rfl ?_); refine boW 37 _ rfl rfl rfl HM.out ?_; intro w9 n9 M)
            | ((with_reducible refine at_alloc 37 rfl ?_); refine alW 37 rfl rfl (zeroRJ _) HM.out ?_; intro w9 n9 M)); replace HM := Lib.hid M; clear M; clear fM; have fM := HM.out.fa))
        | (refine wpList_build_wide 37 (v := .agg zRJ.toArray) rfl rfl (build_rz _) ?_))
      all_goals clear fM
      refine nxt HM fun w6 M => ?_
      clear HM; have HM := M; clear M
      refine bodyPost_ret (rtW 37 Tryz.results8 _ rfl HM.out Tryz.underlying37 rfl infoRJ) rfl ?_
      exact ⟨rfl, HM.out.extTo⟩
  · have HC := Lib.hid hc
    clear h hc
    have HM := Lib.hid (Mem.start0 w)
    have HLEN := Lib.hid (show zRJ.length = 31 from rfl)
    have HONE := Lib.hid zRJ_one
    have HWD : Wd _ _ := ⟨HLEN.out, HONE.out⟩
    go_enter Tryz.func8, Tryz.ntmps8
    have fM := HM.out.fa
    go_wp2_with (first
      | ((with_reducible refine at_list ?_); first
        | ((with_reducible refine at_load 37 _ rfl ?_); refine ldW 37 _ rfl rfl rfl HM.out Tryz.underlying37 rfl infoRJ ?_)
        | ((first
          | ((with_reducible refine at_store 37 _ _ rfl ?_); refine stW 37 _ _ rfl rfl rfl rfl HM.out infoRJ ?_; intro w9 M)
          | ((with_reducible refine at_box 37 _ rfl ?_); refine boW 37 _ rfl rfl rfl HM.out ?_; intro w9 n9 M)
          | ((with_reducible refine at_alloc 37 rfl ?_); refine alW 37 rfl rfl (zeroRJ _) HM.out ?_; intro w9 n9 M)); replace HM := Lib.hid M; clear M; clear fM; have fM := HM.out.fa)))
    all_goals clear fM
    refine (ref12_any _ c).mono ?_
    rintro r wq ⟨rfl, hwq⟩
    rw [hwq, decide_eq_false HC.out]
    clear hwq wq
    have fM := HM.out.fa
    go_wp2_with (first
      | ((with_reducible refine at_list ?_); first
        | ((with_reducible refine at_load 37 _ rfl ?_); refine ldW 37 _ rfl rfl rfl HM.out Tryz.underlying37 rfl infoRJ ?_)
        | ((first
          | ((with_reducible refine at_store 37 _ _ rfl ?_); refine stW 37 _ _ rfl rfl rfl rfl HM.out infoRJ ?_; intro w9 M)
          | ((with_reducible refine at_box 37 _ rfl ?_); refine boW 37 _ rfl rfl rfl HM.out ?_; intro w9 n9 M)
          | ((with_reducible refine at_alloc 37 rfl ?_); refine alW 37 rfl rfl (zeroRJ _) HM.out ?_; intro w9 n9 M)); replace HM := Lib.hid M; clear M; clear fM; have fM := HM.out.fa))
      | (refine wpList_build_wide 37 (v := .agg zRJ.toArray) rfl rfl (build_rz _) ?_))
    all_goals clear fM
    refine nxt HM fun w6 M => ?_
    clear HM; have HM := M; clear M
    refine bodyPost_ret (rtW 37 Tryz.results8 _ rfl HM.out Tryz.underlying37 rfl infoRJ) rfl ?_
    exact ⟨rfl, HM.out.extTo⟩
/-- a judge that is none, as a thing -/
def NoneP (v : Value) (F : Nat → Prop) (w : World) : Prop := (v = .pointer none ∧ ∀ k, ¬ F k) ∨ ∃ b, v = .pointer (some ⟨b, 0, none⟩) ∧ w.cell? ⟨b, 28, none⟩ = some (.pointer none) ∧ b < w.heap.size ∧ ∀ k, F k ↔ k = b
def noneR (v : Value) : Res := anyR (NoneP v) (fun {F S w w'} h hk hs => by
  rcases h with h | ⟨b, h1, h2, h3, h4⟩
  · exact .inl h
  · exact .inr ⟨b, h1, hk.cell (hs b ((h4 b).2 rfl)) h2, Nat.lt_of_lt_of_le h3 hk.size, h4⟩) (fun {F w} h k hk => by
  rcases h with h | ⟨b, h1, h2, h3, h4⟩
  · exact (h.2 k hk).elim
  · rw [(h4 k).1 hk]; exact h3)
theorem noneR_tag {v : Value} : (noneR v).tag = none := rfl
theorem NoneP.none {v : Value} {F : Nat → Prop} {w : World} (h : NoneP v F w) : NoneV w v := by
  rcases h with h | ⟨b, h1, h2, h3, h4⟩
  · exact .inl h.1
  · exact .inr ⟨b, h1, h2, h3⟩
theorem Mem.noneNil {F : Nat → Prop} {w0 w : World} {L : List Res} (h : Mem F w0 w L) : Mem F w0 w (noneR (.pointer none) :: L) :=
  h.new (G := fun _ => False) (Keeps.refl _ _) (.inl ⟨rfl, fun _ h => h⟩) (fun k h => h.elim)
theorem Mem.noneZ {F : Nat → Prop} {w0 w : World} {L L' : List Res} {b : Nat} {t : TypeId} {cs : List Value} (h : Mem F w0 w L) (p : Pick L (cellsR b t cs) L') (hc : cs[28]? = some (.pointer none)) : Mem F w0 w (noneR (.pointer (some ⟨b, 0, none⟩)) :: L') :=
  (h.pick p).turn fun A hA => .inr ⟨b, rfl, (hA.2.reads.1 28).trans hc, hA.2.lt, hA.1⟩
theorem seq_none (w : World) : (binOp .eql 47 (.func (.func 25) #[] #[]) .nilFunc).run Tryz.prog w = .ok (.bool false) w := by kernel_rfl
/-- which are the same, where one is none -/
theorem same_none1 (w : World) (v v' : Value) (h : NoneV w v) (h' : NoneV w v') : Calls Tryz.prog 16 #[v, v'] w fun r w' => r = .returned (.bool true) ∧ w' = w := by
  go_enter Tryz.func16, Tryz.ntmps16
  go_wp2_with fail
  refine (none_none w v h).mono ?_
  rintro e w' ⟨rfl, rfl⟩
  go_wp2_with fail
  refine (none_none w' v h).mono ?_
  rintro e w1 ⟨rfl, rfl⟩
  go_wp2_with fail
  refine (none_none w1 v' h').mono ?_
  rintro e w2 ⟨rfl, rfl⟩
  go_wp2_with fail
  go_ret
  exact ⟨rfl, rfl⟩
theorem same_none2 {F : Nat → Prop} (w : World) (v : Value) (b : Nat) (J : JA) (h : NoneV w v) (h' : JudgeX w F b J) : Calls Tryz.prog 16 #[v, .pointer (some ⟨b, 0, none⟩)] w fun r w' => r = .returned (.bool false) ∧ w' = w := by
  have HJ := Lib.hid h'
  clear h'
  go_enter Tryz.func16, Tryz.ntmps16
  go_wp2_with fail
  refine (none_none w v h).mono ?_
  rintro e w' ⟨rfl, rfl⟩
  go_wp2_with fail
  refine (none_none w' v h).mono ?_
  rintro e w1 ⟨rfl, rfl⟩
  go_wp2_with fail
  refine (judge_none w1 b J HJ.out).mono ?_
  rintro e w2 ⟨rfl, rfl⟩
  go_wp2_with fail
  go_ret
  exact ⟨rfl, rfl⟩
theorem same_none3 {F : Nat → Prop} (w : World) (v : Value) (b : Nat) (J : JA) (h : NoneV w v) (h' : JudgeX w F b J) : Calls Tryz.prog 16 #[.pointer (some ⟨b, 0, none⟩), v] w fun r w' => r = .returned (.bool false) ∧ w' = w := by
  have HJ := Lib.hid h'
  clear h'
  go_enter Tryz.func16, Tryz.ntmps16
  go_wp2_with fail
  refine (judge_none w b J HJ.out).mono ?_
  rintro e w' ⟨rfl, rfl⟩
  go_wp2_with fail
  refine (none_none w' v h).mono ?_
  rintro e w1 ⟨rfl, rfl⟩
  go_wp2_with fail
  refine (judge_none w1 b J HJ.out).mono ?_
  rintro e w2 ⟨rfl, rfl⟩
  go_wp2_with fail
  go_ret
  exact ⟨rfl, rfl⟩
end Go.Proofs.YthhdgjofagdjeaaGreatDoor
end
section
/- The walk of JudgeSees. Conditions: its arguments lie as 'Sns' says; unicode/utf8's two tables read as their initialisers lay them. -/
set_option linter.unusedVariables false
set_option linter.unusedSimpArgs false
set_option maxHeartbeats 8000000
set_option maxRecDepth 100000
namespace Go.Proofs.YthhdgjofagdjeaaGreatDoor
open Go.RowKit Go.Shelf
attribute [local go_sem] Oper.semAt_some
theorem sees_few {A : Nat → Prop} (w : World) (c m : Int) (v : Value) (l : List Sn) (h : Sns w A v l) (hl : l.length ≤ 9223372036854775807) (hA : ∀ k, A k → k < w.heap.size) (hT : Tabs w) (hf : fewB l 50 = false) :
    Calls Tryz.prog 3 #[.int .i64 c, .int .i64 m, v] w fun e w' => e = .returned (.bool true) ∧ Ext w w' := by
  have HV := Lib.hid h
  have HL := Lib.hid hl
  have HA := Lib.hid hA
  have HT := Lib.hid hT
  have HM := Lib.hid (Mem.start0 w)
  have HF := Lib.hid hf
  clear h hl hA hT hf
  refine (callsIn_wide (n := 9)).1 (callsIn_of_wp_marks Tryz.func3 rfl trivial ?_ rfl)
  simp only [Tryz.ntmps3, List.size_toArray, List.length_cons, List.length_nil, Nat.reduceAdd, Nat.reduceSub, Array.replicate_succ, Array.replicate_zero, List.push_toArray, List.append_toArray, List.nil_append, List.cons_append]
  refine wpIn_wide.2 ?_
  have fM := HM.out.fa
  go_wp2_with fail
  all_goals clear fM
  refine nxt HM fun w1 M => ?_
  clear HM; have HM := M; clear M
  refine (few_any w1 v l 50 (HV.out.ext HM.out.extTo) HL.out (fun k hk => Nat.lt_of_lt_of_le (HA.out k hk) HM.out.extTo.size)).mono ?_
  rintro r wq ⟨rfl, hwq⟩
  rw [hwq, HF.out]
  clear hwq wq
  have fM := HM.out.fa
  go_wp2_with fail
  all_goals clear fM
  refine nxt HM fun w2 M => ?_
  clear HM; have HM := M; clear M
  refine (works_any _).mono ?_
  rintro r w3 ⟨rfl, hE⟩
  replace HM := Lib.hid (HM.out.ext hE)
  clear hE
  have fM := HM.out.fa
  go_wp2_with fail
  all_goals clear fM
  refine nxt HM fun w4 M => ?_
  clear HM; have HM := M; clear M
  refine leaves_marks [] _ (by simp) (by simp) ?_
  intro w' hk
  have hE' : Ext w4 w' := hk.mono fun k _ h => by simp at h
  obtain ⟨Ahb, hb⟩ := HM.out.get (r := cellsR w.heap.size 4 [.bool true]) (by with_reducible repeat first | exact ph | apply pt)
  have q0 := (hb.2.ext hE').reads.1
  exact ⟨.bool true, by simp [results, Tryz.results3, go_sem, q0], rfl, HM.out.extTo.ext hE'⟩
theorem sees_in {A : Nat → Prop} (w : World) (c m : Int) (v : Value) (l : List Sn) (h : Sns w A v l) (hl : l.length ≤ 9223372036854775807) (hA : ∀ k, A k → k < w.heap.size) (hT : Tabs w) (hf : fewB l 50 = true) (hok : RightC c ∧ 1 ≤ m ∧ m ≤ 16) :
    Calls Tryz.prog 3 #[.int .i64 c, .int .i64 m, v] w fun e w' => e = .returned (.bool true) ∧ Ext w w' := by
  have HOKC := Lib.hid hok
  clear hok
  have HV := Lib.hid h
  have HL := Lib.hid hl
  have HA := Lib.hid hA
  have HT := Lib.hid hT
  have HM := Lib.hid (Mem.start0 w)
  have HF := Lib.hid hf
  clear h hl hA hT hf
  refine (callsIn_wide (n := 9)).1 (callsIn_of_wp_marks Tryz.func3 rfl trivial ?_ rfl)
  simp only [Tryz.ntmps3, List.size_toArray, List.length_cons, List.length_nil, Nat.reduceAdd, Nat.reduceSub, Array.replicate_succ, Array.replicate_zero, List.push_toArray, List.append_toArray, List.nil_append, List.cons_append]
  refine wpIn_wide.2 ?_
  have fM := HM.out.fa
  go_wp2_with fail
  all_goals clear fM
  refine nxt HM fun w1 M => ?_
  clear HM; have HM := M; clear M
  refine (few_any w1 v l 50 (HV.out.ext HM.out.extTo) HL.out (fun k hk => Nat.lt_of_lt_of_le (HA.out k hk) HM.out.extTo.size)).mono ?_
  rintro r wq ⟨rfl, hwq⟩
  rw [hwq, HF.out]
  clear hwq wq
  have fM := HM.out.fa
  go_wp2_with fail
  all_goals clear fM
  refine nxt HM fun w2 M => ?_
  clear HM; have HM := M; clear M
  refine (judge_new_ok w2 c m HOKC.out.1 HOKC.out.2.1 HOKC.out.2.2).mono ?_
  rintro r w3 ⟨b, F, rfl, hJ, hE, hN⟩
  replace HM := Lib.hid (HM.out.new (r := judgeR b (J0 c m)) hE hJ hN)
  clear hJ hE hN
  have fM := HM.out.fa
  go_wp2_with fail
  all_goals clear fM
  refine nxt HM fun w3 M => ?_
  clear HM; have HM := M; clear M
  refine (rnew_any w3 c m HOKC.out.1 HOKC.out.2.1 HOKC.out.2.2).mono ?_
  rintro r w4 ⟨cs, rfl, hR, hE⟩
  replace HM := Lib.hid (HM.out.new (r := refR cs (J0 c m)) hE ⟨hR, fun k h => (noB _ h).elim⟩ (fun k h => (noB _ h).elim))
  obtain ⟨-, -, -, -, hlen, hone, -⟩ := hR.open
  have HLEN := Lib.hid hlen
  have HONE := Lib.hid hone
  have HWD : Wd _ _ := ⟨HLEN.out, HONE.out⟩
  clear hR hE hlen hone
  obtain ⟨a, cap, rfl⟩ := HV.out.len
  have hpar : (l.length : Int) % 2 = 1 ∨ (l.length : Int) % 2 = 0 := by omega
  have h50 := (fewB_text HF.out).2
  rcases hpar with hp | hp
  case' inl =>
    have hp' : ((l.length : Int) % 2 == 1) = true := by simpa using hp
    clear hp
    have fM := HM.out.fa
    go_wp2_with (first
      | ((with_reducible refine at_list ?_); first
        | ((with_reducible refine at_load 37 _ rfl ?_); refine ldW 37 _ rfl rfl rfl HM.out Tryz.underlying37 rfl infoRJ ?_)
        | ((first
          | ((with_reducible refine at_store 37 _ _ rfl ?_); refine stW 37 _ _ rfl rfl rfl rfl HM.out infoRJ ?_; intro w9 M)
          | ((with_reducible refine at_box 37 _ rfl ?_); refine boW 37 _ rfl rfl rfl HM.out ?_; intro w9 n9 M)
          | ((with_reducible refine at_alloc 37 rfl ?_); refine alW 37 rfl rfl (zeroRJ _) HM.out ?_; intro w9 n9 M)); replace HM := Lib.hid M; clear M; clear fM; have fM := HM.out.fa)))
    all_goals clear fM
    refine nxt HM fun w5 M => ?_
    clear HM; have HM := M; clear M
    rename Nat => nw
    obtain ⟨nz, hnz⟩ : ∃ nz, w9.heap.size = nz := ⟨_, rfl⟩
    rw [hnz] at HM ⊢
    clear hnz
    replace HM := Lib.hid (HM.out.noneZ (b := nz) (t := 45) (by with_reducible repeat first | exact ph | apply pt) rfl)
    obtain ⟨nv, hnv⟩ : ∃ nv, Value.pointer (some ⟨nz, 0, none⟩) = nv := ⟨_, rfl⟩
    rw [hnv] at HM ⊢
    have HNV := Lib.hid hnv
    clear hnv
  case' inr =>
    have hp' : ((l.length : Int) % 2 == 1) = false := by simp; omega
    clear hp
    have fM := HM.out.fa
    go_wp2_with (first
      | ((with_reducible refine at_list ?_); first
        | ((with_reducible refine at_load 37 _ rfl ?_); refine ldW 37 _ rfl rfl rfl HM.out Tryz.underlying37 rfl infoRJ ?_)
        | ((first
          | ((with_reducible refine at_store 37 _ _ rfl ?_); refine stW 37 _ _ rfl rfl rfl rfl HM.out infoRJ ?_; intro w9 M)
          | ((with_reducible refine at_box 37 _ rfl ?_); refine boW 37 _ rfl rfl rfl HM.out ?_; intro w9 n9 M)
          | ((with_reducible refine at_alloc 37 rfl ?_); refine alW 37 rfl rfl (zeroRJ _) HM.out ?_; intro w9 n9 M)); replace HM := Lib.hid M; clear M; clear fM; have fM := HM.out.fa)))
    all_goals clear fM
    refine nxt HM fun w5 M => ?_
    clear HM; have HM := M; clear M
    rename Nat => nw
    replace HM := Lib.hid HM.out.noneNil
    obtain ⟨nv, hnv⟩ : ∃ nv, Value.pointer none = nv := ⟨_, rfl⟩
    rw [hnv] at HM ⊢
    have HNV := Lib.hid hnv
    clear hnv
  all_goals
    obtain ⟨Ahn, hn⟩ := HM.out.get (r := noneR nv) (by with_reducible repeat first | exact ph | apply pt)
    refine (none_whole w5 nv hn.none).mono ?_
    rintro r wq ⟨rfl, hwq⟩
    rw [hwq]
    clear hwq wq hn
    have hsn := fun w => seq_none w
    have fM := HM.out.fa
    go_wp2_with fail
    all_goals clear fM
    clear hsn
    refine nxt HM fun w6 M => ?_
    clear HM; have HM := M; clear M
    obtain ⟨Ahn, hn⟩ := HM.out.get (r := noneR nv) (by with_reducible repeat first | exact ph | apply pt)
    refine (none_whole w6 nv hn.none).mono ?_
    rintro r wq ⟨rfl, hwq⟩
    rw [hwq]
    clear hwq wq hn
    have fM := HM.out.fa
    go_wp2_with fail
    all_goals clear fM
    refine nxt HM fun w7 M => ?_
    clear HM; have HM := M; clear M
    refine (wpIn_wide (n := 9)).1 ?_
    refine wpIn_range rfl (by omega) (gf := 25) (lb := #[]) rfl trivial (enters_of Tryz.func25 (by kernel_rfl) rfl)
      (S := NoB) (none_iter w7) (by rintro x v W0 W rfl; rfl)
      (fun k W => Keeps NoB w7 W) (fun c k W => False) (fun k W h => h)
      (fun k W W' h hk => h.then hk (fun i hi h => by unfold OneB at h; omega))
      (fun c k W W' h hk => h) (Keeps.refl _ _) (fun k hk => absurd hk (Nat.not_lt_zero k)) ?_ (fun c k W hk h => h.elim)
    intro W hW hm
    replace HM := Lib.hid (HM.out.new (r := markR w7.heap.size) (G := fun k => k = w7.heap.size) hW ⟨fun _ => Iff.rfl, hm⟩ (fun k hk => by omega))
    clear hW hm
    have fM := HM.out.fa
    go_wp2_with fail
    all_goals clear fM
    refine nxt HM fun w8 M => ?_
    clear HM; have HM := M; clear M
    obtain ⟨Ahn, hn⟩ := HM.out.get (r := noneR nv) (by with_reducible repeat first | exact ph | apply pt)
    refine (none_see w8 nv ⟨3, 0, 0, ⟨0, 0, 0, []⟩⟩ hn.none).mono ?_
    rintro r wq ⟨rfl, hE⟩
    replace HM := Lib.hid (HM.out.ext hE)
    clear hE hn
    have fM := HM.out.fa
    go_wp2_with fail
    all_goals clear fM
    refine (num_any _ _).mono ?_
    rintro r wq ⟨rfl, hwq⟩
    rw [hwq]
    clear hwq wq
    have fM := HM.out.fa
    go_wp2_with fail
    all_goals clear fM
    refine nxt HM fun w6 M => ?_
    clear HM; have HM := M; clear M
    obtain ⟨Ahn, hn⟩ := HM.out.get (r := noneR nv) (by with_reducible repeat first | exact ph | apply pt)
    refine (none_place w6 nv 0 hn.none).mono ?_
    rintro r wq ⟨rfl, hwq⟩
    rw [hwq]
    clear hwq wq hn
    have fM := HM.out.fa
    go_wp2_with fail
    all_goals clear fM
    refine nxt HM fun w6 M => ?_
    clear HM; have HM := M; clear M
    obtain ⟨Ahn, hn⟩ := HM.out.get (r := noneR nv) (by with_reducible repeat first | exact ph | apply pt)
    refine (none_member w6 nv 0 hn.none).mono ?_
    rintro r wq ⟨rfl, hwq⟩
    rw [hwq]
    clear hwq wq hn
    have fM := HM.out.fa
    go_wp2_with fail
    all_goals clear fM
    refine nxt HM fun w6 M => ?_
    clear HM; have HM := M; clear M
    obtain ⟨Ahn, hn⟩ := HM.out.get (r := noneR nv) (by with_reducible repeat first | exact ph | apply pt)
    refine (none_broken w6 nv hn.none).mono ?_
    rintro r wq ⟨rfl, hwq⟩
    rw [hwq]
    clear hwq wq hn
    have fM := HM.out.fa
    go_wp2_with fail
    all_goals clear fM
    refine nxt HM fun w6 M => ?_
    clear HM; have HM := M; clear M
    obtain ⟨Ahn, hn⟩ := HM.out.get (r := noneR nv) (by with_reducible repeat first | exact ph | apply pt)
    refine (none_copy w6 nv hn.none).mono ?_
    rintro r wq ⟨rfl, hwq⟩
    rw [hwq]
    clear hwq wq hn
    have fM := HM.out.fa
    go_wp2_with fail
    all_goals clear fM
    refine nxt HM fun w6 M => ?_
    clear HM; have HM := M; clear M
    obtain ⟨Ahn, hn⟩ := HM.out.get (r := noneR nv) (by with_reducible repeat first | exact ph | apply pt)
    refine (same_none1 w6 nv (.pointer none) hn.none (.inl rfl)).mono ?_
    rintro r wq ⟨rfl, hwq⟩
    rw [hwq]
    clear hwq wq hn
    have fM := HM.out.fa
    go_wp2_with fail
    all_goals clear fM
    obtain ⟨D0, hD0⟩ : ∃ D0, w7.heap.size = D0 := ⟨_, rfl⟩
    rw [hD0] at HM ⊢
    clear hD0
    go_loopw [12] (fun i wr => ∃ (k : Nat) (cs : List Value), k ≤ l.length ∧ i = .int .i64 k ∧ Hid (cs.length = 31) ∧ Hid (∀ u ∈ cs, u.oneCell' = true) ∧ Hid (Mem NoB w wr [cellsR nw 37 cs, refR cs (sees (J0 c m) (l.take k)), judgeR b (sees (J0 c m) (l.take k)), noneR nv, markR D0, cellsR w.heap.size 4 [.bool false]])) (fun i _ => l.length - (intOf i).toNat)
    case atStart =>
      refine ⟨0, cs, Nat.zero_le _, rfl, HLEN, HONE, Lib.hid ?_⟩
      rw [show sees (J0 c m) (l.take 0) = J0 c m from rfl]
      exact Mem.sub HM.out (by repeat first | exact Sub.nil | refine Sub.cons (by with_reducible repeat first | exact ph | apply pt) ?_)
    case round =>
      clear HLEN HONE HM
      obtain ⟨k, cs, hk, rfl, HLEN, HONE, HM⟩ := hrel
      have HWD : Wd _ _ := ⟨HLEN.out, HONE.out⟩
      obtain ⟨hfx, hfl⟩ := fewB_text HF.out
      by_cases hlt : k < l.length
      · have hok := sees_ok (l.take k) (J0 c m) (OkJ.new HOKC.out.1 HOKC.out.2.2) T0_ok
        have hsn : sees (J0 c m) (l.take (k + 1)) = (seeR (sees (J0 c m) (l.take k)) l[k]).1 := by rw [List.take_succ_eq_append_getElem hlt, sees_snoc]
        have hft := sees_fits HOKC.out.1 HOKC.out.2.1 HOKC.out.2.2 (l.take (k + 1))
        rw [hsn] at hft
        obtain ⟨J, hJ⟩ : ∃ J, sees (J0 c m) (l.take k) = J := ⟨_, rfl⟩
        rw [hJ] at hok hsn HM hft
        obtain ⟨g, o, rfl, -⟩ := (HV.out.ext HM.out.extTo).at k hlt
        have hox := HV.out.ok _ (List.getElem_mem hlt)
        have hxt := hfx _ (List.getElem_mem hlt)
        obtain ⟨y, hy⟩ : ∃ y, l[k] = y := ⟨_, rfl⟩
        rw [hy] at hsn hox hxt hft
        have HYE := Lib.hid hy
        obtain ⟨g2, o2, hgo, hg, -, hx⟩ := (HV.out.ext HM.out.extTo).at k hlt
        cases hgo
        rw [HYE.out] at hx
        have hgl : g < wr.heap.size := Nat.lt_of_lt_of_le (HA.out g hg) HM.out.extTo.size
        have d0 : wr.cell? ⟨g, o + k * 7, none⟩ = some (.int .i64 y.kind) := hx 0 (by decide)
        have d1 : wr.cell? ⟨g, o + k * 7 + 1, none⟩ = some (.int .i64 y.who) := hx 1 (by decide)
        have d2 : wr.cell? ⟨g, o + k * 7 + 2, none⟩ = some (.int .i64 y.index) := hx 2 (by decide)
        have d3 : wr.cell? ⟨g, o + k * 7 + 3, none⟩ = some (.int .i64 y.e.kind) := hx 3 (by decide)
        have d4 : wr.cell? ⟨g, o + k * 7 + 4, none⟩ = some (.int .i64 y.e.member) := hx 4 (by decide)
        have d5 : wr.cell? ⟨g, o + k * 7 + 5, none⟩ = some (.int .i64 y.e.number) := hx 5 (by decide)
        have d6 : wr.cell? ⟨g, o + k * 7 + 6, none⟩ = some (.string (bs y.e.text)) := hx 6 (by decide)
        clear hx hg
        have g1 : (k : Int) < (l.length : Int) := by omega
        have g2 : ¬ (k : Int) < 0 := by omega
        have g3 : (k : Int) < 50 := by omega
        have HOK := Lib.hid hok
        have HSN := Lib.hid hsn
        have HOX := Lib.hid hox
        have HXT := Lib.hid hxt
        have HFT := Lib.hid hft
        have HYV := Lib.hid (show y.v = .agg #[.int .i64 y.kind, .int .i64 y.who, .int .i64 y.index, .int .i64 y.e.kind, .int .i64 y.e.member, .int .i64 y.e.number, .string (bs y.e.text)] from rfl)
        clear hok hsn hox hxt hJ hy hfx hfl hft
        have fM := HM.out.fa
        go_wp2_with fail
        refine wp_region_noPanic ?_
        have hE0 : Keeps NoB wr wr.drew := (Keeps.refl _ _).drew
        refine wp_region_forks [0, 4] [5, 9, 10, 11] (ClsE wr) (by kernel_rfl) ?_
        refine any_seg (L := #[true, true, true, true, true, false, false, false, false, false, false, false]) [(1, 0), (0, 1), (0, 2), (0, 3), (1, 4)] 7 (by kernel_rfl) (fun _ _ _ _ _ h => h) (by kernel_rfl) (by kernel_rfl) rfl rfl (ClsE.of (by repeat (first | assumption | exact Keeps.refl _ _ | refine Keeps.alloc ?_ _ | refine Keeps.setOne ?_ _ _ | refine Keeps.setCell ?_ _ _ (.inl (by first | rfl | exact .inl rfl | exact .inr rfl | omega)) | refine Keeps.drew ?_))) ?_; simp only [planL, nL]
        refine pLW 37 _ rfl rfl rfl HM.out Tryz.underlying37 rfl infoRJ ?_; simp only [nP]
        iterate 2 (refine pM _ rfl rfl ?_; simp only [nP, nE])
        refine pR (v := ?_) rfl (fun W => ?_) ?_; rotate_left; (go_simp <;> with_reducible rfl); simp only [nP]
        refine pL (v := ?_) rfl (fun W => ?_) ?_; rotate_left; (go_simp <;> with_reducible rfl); simp only [nP]
        refine plan_nil ?_
        refine any_fork 5 9 (by kernel_rfl) (by kernel_rfl) rfl rfl rfl rfl (fun K hK => ?_) (fun K hK => ?_)
        · skip
          go_wp2_with fail
          skip
          rw [← HYV.out]
          refine Mem.callE (wr := wr) HM.out.to (by repeat (first | assumption | exact Keeps.refl _ _ | with_reducible apply Keeps.drew | with_reducible apply Keeps.alloc)) fun w6 M hE6 => ?_
          replace HM := Lib.hid M
          clear M
          obtain ⟨A', hA', -, hS⟩ := (HM.out.pick (r := refR cs J) (by with_reducible repeat first | exact ph | apply pt)).step'
          refine Calls.mono (rsee_any w6 J cs y hA'.1 hA'.2 ⟨HOK.out.1, HOK.out.2.1, by have := HOK.out.2.2; rw [List.length_take] at this; have : (J0 c m).put.length = 0 := rfl; omega⟩ (by have := HOK.out.2.2; rw [List.length_take] at this; have : (J0 c m).put.length = 0 := rfl; omega) (by have := HXT.out; omega)) ?_
          rintro r w8 ⟨cs', rfl, hR', hE⟩
          have hE8 : Ext wr w8 := hE6.ext hE
          obtain ⟨-, -, -, -, hlen', hone', -⟩ := hR'.open
          have HLEN1 := Lib.hid hlen'
          have HONE1 := Lib.hid hone'
          have HWD1 : Wd _ _ := ⟨HLEN1.out, HONE1.out⟩
          replace HM := Lib.hid (hS _ _ (hR'.upd hE))
          clear hA' hS hR' hE hlen' hone' hE6
          clear A'
          refine hK _ _ ⟨ClsE.of (by assumption), ?_⟩; clear hK K; try simp only [nP]
          refine any_end [(0, 6), (0, 7), (0, 8), (2, 9)] [10, 11] (by kernel_rfl) (fun _ _ _ _ _ h => h) (by kernel_rfl) (by kernel_rfl) rfl rfl (ClsE.of (by repeat (first | assumption | exact Keeps.refl _ _ | refine Keeps.alloc ?_ _ | refine Keeps.setOne ?_ _ _ | refine Keeps.setCell ?_ _ _ (.inl (by first | rfl | exact .inl rfl | exact .inr rfl | omega)) | refine Keeps.drew ?_))) ?_; simp only [planL, nL]
          refine pM _ rfl rfl ?_; simp only [nP, nE]
          iterate 2 (refine pR (v := ?_) rfl (fun W => ?_) ?_; rotate_left; (go_simp <;> with_reducible rfl); simp only [nP])
          refine plan_does rfl (fun K hK => ?_)
          refine oaW 37 rfl (zeroRJ _) HM.out (wr := wr) (by repeat (first | assumption | exact Keeps.refl _ _ | with_reducible apply Keeps.drew | with_reducible apply Keeps.alloc)) fun w9 n9 M hE9 => ?_
          replace HM := Lib.hid M; clear M
          refine hK _ _ ⟨ClsE.of hE9, ?_⟩; clear hK K; try simp only [nP]
          refine plan_nil ?_; simp only [tailL, List.filterMap_cons, List.filterMap_nil, nL]; change wpList _ _ _ (_ :: _ :: []) _ _
          skip
          clear fM
          clear d0 d1 d2 d3 d4 d5 d6 hE0
          try clear hE8
          have fM := HM.out.fa
          go_wp2_with (first
            | ((with_reducible refine at_list ?_); first
              | ((with_reducible refine at_load 37 _ rfl ?_); refine ldW 37 _ rfl rfl rfl HM.out Tryz.underlying37 rfl infoRJ ?_)
              | ((first
                | ((with_reducible refine at_store 37 _ _ rfl ?_); refine stW 37 _ _ rfl rfl rfl rfl HM.out infoRJ ?_; intro w9 M)
                | ((with_reducible refine at_box 37 _ rfl ?_); refine boW 37 _ rfl rfl rfl HM.out ?_; intro w9 n9 M)
                | ((with_reducible refine at_alloc 37 rfl ?_); refine alW 37 rfl rfl (zeroRJ _) HM.out ?_; intro w9 n9 M)); replace HM := Lib.hid M; clear M; clear fM; have fM := HM.out.fa)))
          all_goals clear fM
          refine NoPanic.ok ?_
          have fM := HM.out.fa
          go_wp2_with (first
            | ((with_reducible refine at_list ?_); first
              | ((with_reducible refine at_load 37 _ rfl ?_); refine ldW 37 _ rfl rfl rfl HM.out Tryz.underlying37 rfl infoRJ ?_)
              | ((first
                | ((with_reducible refine at_store 37 _ _ rfl ?_); refine stW 37 _ _ rfl rfl rfl rfl HM.out infoRJ ?_; intro w9 M)
                | ((with_reducible refine at_box 37 _ rfl ?_); refine boW 37 _ rfl rfl rfl HM.out ?_; intro w9 n9 M)
                | ((with_reducible refine at_alloc 37 rfl ?_); refine alW 37 rfl rfl (zeroRJ _) HM.out ?_; intro w9 n9 M)); replace HM := Lib.hid M; clear M; clear fM; have fM := HM.out.fa; refine standing ?_)))
          all_goals clear fM
          refine ⟨?_⟩
          obtain ⟨g2, o2, hgo, hg, -, hx⟩ := (HV.out.ext HM.out.extTo).at k hlt
          cases hgo
          rw [HYE.out] at hx
          have hgl : g < w9.heap.size := Nat.lt_of_lt_of_le (HA.out g hg) HM.out.extTo.size
          have d0 : w9.cell? ⟨g, o + k * 7, none⟩ = some (.int .i64 y.kind) := hx 0 (by decide)
          have d1 : w9.cell? ⟨g, o + k * 7 + 1, none⟩ = some (.int .i64 y.who) := hx 1 (by decide)
          have d2 : w9.cell? ⟨g, o + k * 7 + 2, none⟩ = some (.int .i64 y.index) := hx 2 (by decide)
          have d3 : w9.cell? ⟨g, o + k * 7 + 3, none⟩ = some (.int .i64 y.e.kind) := hx 3 (by decide)
          have d4 : w9.cell? ⟨g, o + k * 7 + 4, none⟩ = some (.int .i64 y.e.member) := hx 4 (by decide)
          have d5 : w9.cell? ⟨g, o + k * 7 + 5, none⟩ = some (.int .i64 y.e.number) := hx 5 (by decide)
          have d6 : w9.cell? ⟨g, o + k * 7 + 6, none⟩ = some (.string (bs y.e.text)) := hx 6 (by decide)
          clear hx hg
          have fM := HM.out.fa
          go_wp2_with (first
            | ((with_reducible refine at_list ?_); first
              | ((with_reducible refine at_load 37 _ rfl ?_); refine ldW 37 _ rfl rfl rfl HM.out Tryz.underlying37 rfl infoRJ ?_)
              | ((first
                | ((with_reducible refine at_store 37 _ _ rfl ?_); refine stW 37 _ _ rfl rfl rfl rfl HM.out infoRJ ?_; intro w9 M)
                | ((with_reducible refine at_box 37 _ rfl ?_); refine boW 37 _ rfl rfl rfl HM.out ?_; intro w9 n9 M)
                | ((with_reducible refine at_alloc 37 rfl ?_); refine alW 37 rfl rfl (zeroRJ _) HM.out ?_; intro w9 n9 M)); replace HM := Lib.hid M; clear M; clear fM; have fM := HM.out.fa)))
          all_goals clear fM
          rw [← HYV.out]
          clear d0 d1 d2 d3 d4 d5 d6
          refine nxt HM fun w10 M => ?_
          clear HM; have HM := M; clear M
          obtain ⟨A', hA', hAF, hS⟩ := (HM.out.pick (r := judgeR b J) (by with_reducible repeat first | exact ph | apply pt)).step'
          have hk1 := HM.out.keepsTo
          refine (see_any w10 b J y hA' HOK.out.1 (HOX.out).e (HOX.out).kind (HOX.out).e.1 (fun h w2 h2 => check_chk w w2 HT.out (hk1.then h2 fun i hi h => by
            rcases hAF i h with h | h
            · exact h
            · omega) (y).e.text (by have := HXT.out; omega))).mono ?_
          rintro r w11 ⟨rfl, hU⟩
          replace HM := Lib.hid (hS _ _ hU)
          clear hU hA' hAF hS hk1
          clear A'
          have fM := HM.out.fa
          go_wp2_with (first
            | ((with_reducible refine at_list ?_); first
              | ((with_reducible refine at_load 37 _ rfl ?_); refine ldW 37 _ rfl rfl rfl HM.out Tryz.underlying37 rfl infoRJ ?_)
              | ((first
                | ((with_reducible refine at_store 37 _ _ rfl ?_); refine stW 37 _ _ rfl rfl rfl rfl HM.out infoRJ ?_; intro w9 M)
                | ((with_reducible refine at_box 37 _ rfl ?_); refine boW 37 _ rfl rfl rfl HM.out ?_; intro w9 n9 M)
                | ((with_reducible refine at_alloc 37 rfl ?_); refine alW 37 rfl rfl (zeroRJ _) HM.out ?_; intro w9 n9 M)); replace HM := Lib.hid M; clear M; clear fM; have fM := HM.out.fa)))
          all_goals clear fM
          refine (num_any _ _).mono ?_
          rintro r wq ⟨rfl, hwq⟩
          rw [hwq]
          clear hwq wq
          have fM := HM.out.fa
          go_wp2_with (first
            | ((with_reducible refine at_list ?_); first
              | ((with_reducible refine at_load 37 _ rfl ?_); refine ldW 37 _ rfl rfl rfl HM.out Tryz.underlying37 rfl infoRJ ?_)
              | ((first
                | ((with_reducible refine at_store 37 _ _ rfl ?_); refine stW 37 _ _ rfl rfl rfl rfl HM.out infoRJ ?_; intro w9 M)
                | ((with_reducible refine at_box 37 _ rfl ?_); refine boW 37 _ rfl rfl rfl HM.out ?_; intro w9 n9 M)
                | ((with_reducible refine at_alloc 37 rfl ?_); refine alW 37 rfl rfl (zeroRJ _) HM.out ?_; intro w9 n9 M)); replace HM := Lib.hid M; clear M; clear fM; have fM := HM.out.fa)))
          all_goals clear fM
          refine nxt HM fun w12 M => ?_
          clear HM; have HM := M; clear M
          obtain ⟨Ahj, hj⟩ := HM.out.get (r := judgeR b (seeR J y).1) (by with_reducible repeat first | exact ph | apply pt)
          obtain ⟨Ahr, hr⟩ := HM.out.get (r := refR cs' (seeR J y).1) (by with_reducible repeat first | exact ph | apply pt)
          refine (is_any w12 b (seeR J y).1 cs' hj hr.1 HFT.out).mono ?_
          rintro r w13 ⟨rfl, hE⟩
          replace HM := Lib.hid (HM.out.ext hE)
          clear hE hj hr
          have fM := HM.out.fa
          go_wp2_with (first
            | ((with_reducible refine at_list ?_); first
              | ((with_reducible refine at_load 37 _ rfl ?_); refine ldW 37 _ rfl rfl rfl HM.out Tryz.underlying37 rfl infoRJ ?_)
              | ((first
                | ((with_reducible refine at_store 37 _ _ rfl ?_); refine stW 37 _ _ rfl rfl rfl rfl HM.out infoRJ ?_; intro w9 M)
                | ((with_reducible refine at_box 37 _ rfl ?_); refine boW 37 _ rfl rfl rfl HM.out ?_; intro w9 n9 M)
                | ((with_reducible refine at_alloc 37 rfl ?_); refine alW 37 rfl rfl (zeroRJ _) HM.out ?_; intro w9 n9 M)); replace HM := Lib.hid M; clear M; clear fM; have fM := HM.out.fa)))
          all_goals clear fM
          go_roundw
          case rel =>
            refine ⟨k + 1, cs', by omega, by go_num, HLEN1, HONE1, Lib.hid ?_⟩
            rw [HSN.out]
            exact Mem.sub HM.out (by repeat first | exact Sub.nil | refine Sub.cons (by with_reducible repeat first | exact ph | apply pt) ?_)
          case measure => simp [intOf]; omega
        · skip
          refine oaW 37 rfl (zeroRJ _) HM.out (wr := wr) (by repeat (first | assumption | exact Keeps.refl _ _ | with_reducible apply Keeps.drew | with_reducible apply Keeps.alloc)) fun w9 n9 M hE9 => ?_
          replace HM := Lib.hid M; clear M
          refine hK _ _ ⟨ClsE.of hE9, ?_⟩; clear hK K; try simp only [nP]
          refine any_end [(2, 5), (0, 6), (0, 7), (0, 8)] [10, 11] (by kernel_rfl) (fun _ _ _ _ _ h => h) (by kernel_rfl) (by kernel_rfl) rfl rfl (ClsE.of (by repeat (first | assumption | exact Keeps.refl _ _ | refine Keeps.alloc ?_ _ | refine Keeps.setOne ?_ _ _ | refine Keeps.setCell ?_ _ _ (.inl (by first | rfl | exact .inl rfl | exact .inr rfl | omega)) | refine Keeps.drew ?_))) ?_; simp only [planL, nL]
          refine plan_does rfl (fun K hK => ?_)
          go_wp2_with fail
          skip
          rw [← HYV.out]
          refine Mem.callE (wr := wr) HM.out.to (by repeat (first | assumption | exact Keeps.refl _ _ | with_reducible apply Keeps.drew | with_reducible apply Keeps.alloc)) fun w6 M hE6 => ?_
          replace HM := Lib.hid M
          clear M
          obtain ⟨A', hA', -, hS⟩ := (HM.out.pick (r := refR cs J) (by with_reducible repeat first | exact ph | apply pt)).step'
          refine Calls.mono (rsee_any w6 J cs y hA'.1 hA'.2 ⟨HOK.out.1, HOK.out.2.1, by have := HOK.out.2.2; rw [List.length_take] at this; have : (J0 c m).put.length = 0 := rfl; omega⟩ (by have := HOK.out.2.2; rw [List.length_take] at this; have : (J0 c m).put.length = 0 := rfl; omega) (by have := HXT.out; omega)) ?_
          rintro r w8 ⟨cs', rfl, hR', hE⟩
          have hE8 : Ext wr w8 := hE6.ext hE
          obtain ⟨-, -, -, -, hlen', hone', -⟩ := hR'.open
          have HLEN1 := Lib.hid hlen'
          have HONE1 := Lib.hid hone'
          have HWD1 : Wd _ _ := ⟨HLEN1.out, HONE1.out⟩
          replace HM := Lib.hid (hS _ _ (hR'.upd hE))
          clear hA' hS hR' hE hlen' hone' hE6
          clear A'
          refine hK _ _ ⟨ClsE.of (by assumption), ?_⟩; clear hK K; try simp only [nP]
          refine pM _ rfl rfl ?_; simp only [nP, nE]
          iterate 2 (refine pR (v := ?_) rfl (fun W => ?_) ?_; rotate_left; (go_simp <;> with_reducible rfl); simp only [nP])
          refine plan_nil ?_; simp only [tailL, List.filterMap_cons, List.filterMap_nil, nL]; change wpList _ _ _ (_ :: _ :: []) _ _
          skip
          clear fM
          clear d0 d1 d2 d3 d4 d5 d6 hE0
          try clear hE8
          have fM := HM.out.fa
          go_wp2_with (first
            | ((with_reducible refine at_list ?_); first
              | ((with_reducible refine at_load 37 _ rfl ?_); refine ldW 37 _ rfl rfl rfl HM.out Tryz.underlying37 rfl infoRJ ?_)
              | ((first
                | ((with_reducible refine at_store 37 _ _ rfl ?_); refine stW 37 _ _ rfl rfl rfl rfl HM.out infoRJ ?_; intro w9 M)
                | ((with_reducible refine at_box 37 _ rfl ?_); refine boW 37 _ rfl rfl rfl HM.out ?_; intro w9 n9 M)
                | ((with_reducible refine at_alloc 37 rfl ?_); refine alW 37 rfl rfl (zeroRJ _) HM.out ?_; intro w9 n9 M)); replace HM := Lib.hid M; clear M; clear fM; have fM := HM.out.fa)))
          all_goals clear fM
          refine NoPanic.ok ?_
          have fM := HM.out.fa
          go_wp2_with (first
            | ((with_reducible refine at_list ?_); first
              | ((with_reducible refine at_load 37 _ rfl ?_); refine ldW 37 _ rfl rfl rfl HM.out Tryz.underlying37 rfl infoRJ ?_)
              | ((first
                | ((with_reducible refine at_store 37 _ _ rfl ?_); refine stW 37 _ _ rfl rfl rfl rfl HM.out infoRJ ?_; intro w9 M)
                | ((with_reducible refine at_box 37 _ rfl ?_); refine boW 37 _ rfl rfl rfl HM.out ?_; intro w9 n9 M)
                | ((with_reducible refine at_alloc 37 rfl ?_); refine alW 37 rfl rfl (zeroRJ _) HM.out ?_; intro w9 n9 M)); replace HM := Lib.hid M; clear M; clear fM; have fM := HM.out.fa; refine standing ?_)))
          all_goals clear fM
          refine ⟨?_⟩
          obtain ⟨g2, o2, hgo, hg, -, hx⟩ := (HV.out.ext HM.out.extTo).at k hlt
          cases hgo
          rw [HYE.out] at hx
          have hgl : g < w9.heap.size := Nat.lt_of_lt_of_le (HA.out g hg) HM.out.extTo.size
          have d0 : w9.cell? ⟨g, o + k * 7, none⟩ = some (.int .i64 y.kind) := hx 0 (by decide)
          have d1 : w9.cell? ⟨g, o + k * 7 + 1, none⟩ = some (.int .i64 y.who) := hx 1 (by decide)
          have d2 : w9.cell? ⟨g, o + k * 7 + 2, none⟩ = some (.int .i64 y.index) := hx 2 (by decide)
          have d3 : w9.cell? ⟨g, o + k * 7 + 3, none⟩ = some (.int .i64 y.e.kind) := hx 3 (by decide)
          have d4 : w9.cell? ⟨g, o + k * 7 + 4, none⟩ = some (.int .i64 y.e.member) := hx 4 (by decide)
          have d5 : w9.cell? ⟨g, o + k * 7 + 5, none⟩ = some (.int .i64 y.e.number) := hx 5 (by decide)
          have d6 : w9.cell? ⟨g, o + k * 7 + 6, none⟩ = some (.string (bs y.e.text)) := hx 6 (by decide)
          clear hx hg
          have fM := HM.out.fa
          go_wp2_with (first
            | ((with_reducible refine at_list ?_); first
              | ((with_reducible refine at_load 37 _ rfl ?_); refine ldW 37 _ rfl rfl rfl HM.out Tryz.underlying37 rfl infoRJ ?_)
              | ((first
                | ((with_reducible refine at_store 37 _ _ rfl ?_); refine stW 37 _ _ rfl rfl rfl rfl HM.out infoRJ ?_; intro w9 M)
                | ((with_reducible refine at_box 37 _ rfl ?_); refine boW 37 _ rfl rfl rfl HM.out ?_; intro w9 n9 M)
                | ((with_reducible refine at_alloc 37 rfl ?_); refine alW 37 rfl rfl (zeroRJ _) HM.out ?_; intro w9 n9 M)); replace HM := Lib.hid M; clear M; clear fM; have fM := HM.out.fa)))
          all_goals clear fM
          rw [← HYV.out]
          clear d0 d1 d2 d3 d4 d5 d6
          refine nxt HM fun w10 M => ?_
          clear HM; have HM := M; clear M
          obtain ⟨A', hA', hAF, hS⟩ := (HM.out.pick (r := judgeR b J) (by with_reducible repeat first | exact ph | apply pt)).step'
          have hk1 := HM.out.keepsTo
          refine (see_any w10 b J y hA' HOK.out.1 (HOX.out).e (HOX.out).kind (HOX.out).e.1 (fun h w2 h2 => check_chk w w2 HT.out (hk1.then h2 fun i hi h => by
            rcases hAF i h with h | h
            · exact h
            · omega) (y).e.text (by have := HXT.out; omega))).mono ?_
          rintro r w11 ⟨rfl, hU⟩
          replace HM := Lib.hid (hS _ _ hU)
          clear hU hA' hAF hS hk1
          clear A'
          have fM := HM.out.fa
          go_wp2_with (first
            | ((with_reducible refine at_list ?_); first
              | ((with_reducible refine at_load 37 _ rfl ?_); refine ldW 37 _ rfl rfl rfl HM.out Tryz.underlying37 rfl infoRJ ?_)
              | ((first
                | ((with_reducible refine at_store 37 _ _ rfl ?_); refine stW 37 _ _ rfl rfl rfl rfl HM.out infoRJ ?_; intro w9 M)
                | ((with_reducible refine at_box 37 _ rfl ?_); refine boW 37 _ rfl rfl rfl HM.out ?_; intro w9 n9 M)
                | ((with_reducible refine at_alloc 37 rfl ?_); refine alW 37 rfl rfl (zeroRJ _) HM.out ?_; intro w9 n9 M)); replace HM := Lib.hid M; clear M; clear fM; have fM := HM.out.fa)))
          all_goals clear fM
          refine (num_any _ _).mono ?_
          rintro r wq ⟨rfl, hwq⟩
          rw [hwq]
          clear hwq wq
          have fM := HM.out.fa
          go_wp2_with (first
            | ((with_reducible refine at_list ?_); first
              | ((with_reducible refine at_load 37 _ rfl ?_); refine ldW 37 _ rfl rfl rfl HM.out Tryz.underlying37 rfl infoRJ ?_)
              | ((first
                | ((with_reducible refine at_store 37 _ _ rfl ?_); refine stW 37 _ _ rfl rfl rfl rfl HM.out infoRJ ?_; intro w9 M)
                | ((with_reducible refine at_box 37 _ rfl ?_); refine boW 37 _ rfl rfl rfl HM.out ?_; intro w9 n9 M)
                | ((with_reducible refine at_alloc 37 rfl ?_); refine alW 37 rfl rfl (zeroRJ _) HM.out ?_; intro w9 n9 M)); replace HM := Lib.hid M; clear M; clear fM; have fM := HM.out.fa)))
          all_goals clear fM
          refine nxt HM fun w12 M => ?_
          clear HM; have HM := M; clear M
          obtain ⟨Ahj, hj⟩ := HM.out.get (r := judgeR b (seeR J y).1) (by with_reducible repeat first | exact ph | apply pt)
          obtain ⟨Ahr, hr⟩ := HM.out.get (r := refR cs' (seeR J y).1) (by with_reducible repeat first | exact ph | apply pt)
          refine (is_any w12 b (seeR J y).1 cs' hj hr.1 HFT.out).mono ?_
          rintro r w13 ⟨rfl, hE⟩
          replace HM := Lib.hid (HM.out.ext hE)
          clear hE hj hr
          have fM := HM.out.fa
          go_wp2_with (first
            | ((with_reducible refine at_list ?_); first
              | ((with_reducible refine at_load 37 _ rfl ?_); refine ldW 37 _ rfl rfl rfl HM.out Tryz.underlying37 rfl infoRJ ?_)
              | ((first
                | ((with_reducible refine at_store 37 _ _ rfl ?_); refine stW 37 _ _ rfl rfl rfl rfl HM.out infoRJ ?_; intro w9 M)
                | ((with_reducible refine at_box 37 _ rfl ?_); refine boW 37 _ rfl rfl rfl HM.out ?_; intro w9 n9 M)
                | ((with_reducible refine at_alloc 37 rfl ?_); refine alW 37 rfl rfl (zeroRJ _) HM.out ?_; intro w9 n9 M)); replace HM := Lib.hid M; clear M; clear fM; have fM := HM.out.fa)))
          all_goals clear fM
          go_roundw
          case rel =>
            refine ⟨k + 1, cs', by omega, by go_num, HLEN1, HONE1, Lib.hid ?_⟩
            rw [HSN.out]
            exact Mem.sub HM.out (by repeat first | exact Sub.nil | refine Sub.cons (by with_reducible repeat first | exact ph | apply pt) ?_)
          case measure => simp [intOf]; omega
      · obtain rfl : k = l.length := by omega
        rw [List.take_length] at HM
        clear hlt hk hfl hfx
        have hft := sees_fits HOKC.out.1 HOKC.out.2.1 HOKC.out.2.2 l
        obtain ⟨J, hJ⟩ : ∃ J, sees (J0 c m) l = J := ⟨_, rfl⟩
        rw [hJ] at HM hft
        have HFT := Lib.hid hft
        clear hft hJ
        have fM := HM.out.fa
        go_wp2_with (first
          | ((with_reducible refine at_list ?_); first
            | ((with_reducible refine at_load 37 _ rfl ?_); refine ldW 37 _ rfl rfl rfl HM.out Tryz.underlying37 rfl infoRJ ?_)
            | ((first
              | ((with_reducible refine at_store 37 _ _ rfl ?_); refine stW 37 _ _ rfl rfl rfl rfl HM.out infoRJ ?_; intro w9 M)
              | ((with_reducible refine at_box 37 _ rfl ?_); refine boW 37 _ rfl rfl rfl HM.out ?_; intro w9 n9 M)
              | ((with_reducible refine at_alloc 37 rfl ?_); refine alW 37 rfl rfl (zeroRJ _) HM.out ?_; intro w9 n9 M)); replace HM := Lib.hid M; clear M; clear fM; have fM := HM.out.fa)))
        all_goals clear fM
        refine (num_any _ _).mono ?_
        rintro r wq ⟨rfl, hwq⟩
        rw [hwq]
        clear hwq wq
        have fM := HM.out.fa
        go_wp2_with (first
          | ((with_reducible refine at_list ?_); first
            | ((with_reducible refine at_load 37 _ rfl ?_); refine ldW 37 _ rfl rfl rfl HM.out Tryz.underlying37 rfl infoRJ ?_)
            | ((first
              | ((with_reducible refine at_store 37 _ _ rfl ?_); refine stW 37 _ _ rfl rfl rfl rfl HM.out infoRJ ?_; intro w9 M)
              | ((with_reducible refine at_box 37 _ rfl ?_); refine boW 37 _ rfl rfl rfl HM.out ?_; intro w9 n9 M)
              | ((with_reducible refine at_alloc 37 rfl ?_); refine alW 37 rfl rfl (zeroRJ _) HM.out ?_; intro w9 n9 M)); replace HM := Lib.hid M; clear M; clear fM; have fM := HM.out.fa)))
        all_goals clear fM
        refine nxt HM fun w10 M => ?_
        clear HM; have HM := M; clear M
        obtain ⟨Ahj, hj⟩ := HM.out.get (r := judgeR b J) (by with_reducible repeat first | exact ph | apply pt)
        obtain ⟨Ahr, hr⟩ := HM.out.get (r := refR cs J) (by with_reducible repeat first | exact ph | apply pt)
        refine (is_any w10 b J cs hj hr.1 HFT.out).mono ?_
        rintro r w11 ⟨rfl, hE⟩
        replace HM := Lib.hid (HM.out.ext hE)
        clear hE hj hr
        have fM := HM.out.fa
        go_wp2_with (first
          | ((with_reducible refine at_list ?_); first
            | ((with_reducible refine at_load 37 _ rfl ?_); refine ldW 37 _ rfl rfl rfl HM.out Tryz.underlying37 rfl infoRJ ?_)
            | ((first
              | ((with_reducible refine at_store 37 _ _ rfl ?_); refine stW 37 _ _ rfl rfl rfl rfl HM.out infoRJ ?_; intro w9 M)
              | ((with_reducible refine at_box 37 _ rfl ?_); refine boW 37 _ rfl rfl rfl HM.out ?_; intro w9 n9 M)
              | ((with_reducible refine at_alloc 37 rfl ?_); refine alW 37 rfl rfl (zeroRJ _) HM.out ?_; intro w9 n9 M)); replace HM := Lib.hid M; clear M; clear fM; have fM := HM.out.fa)))
        all_goals clear fM
        refine nxt HM fun w12 M => ?_
        clear HM; have HM := M; clear M
        obtain ⟨Ahj, hj⟩ := HM.out.get (r := judgeR b J) (by with_reducible repeat first | exact ph | apply pt)
        obtain ⟨Ahn, hn⟩ := HM.out.get (r := noneR nv) (by with_reducible repeat first | exact ph | apply pt)
        refine (same_none3 w12 nv b J hn.none hj).mono ?_
        rintro r wq ⟨rfl, hwq⟩
        rw [hwq]
        clear hwq wq hn hj
        have fM := HM.out.fa
        go_wp2_with (first
          | ((with_reducible refine at_list ?_); first
            | ((with_reducible refine at_load 37 _ rfl ?_); refine ldW 37 _ rfl rfl rfl HM.out Tryz.underlying37 rfl infoRJ ?_)
            | ((first
              | ((with_reducible refine at_store 37 _ _ rfl ?_); refine stW 37 _ _ rfl rfl rfl rfl HM.out infoRJ ?_; intro w9 M)
              | ((with_reducible refine at_box 37 _ rfl ?_); refine boW 37 _ rfl rfl rfl HM.out ?_; intro w9 n9 M)
              | ((with_reducible refine at_alloc 37 rfl ?_); refine alW 37 rfl rfl (zeroRJ _) HM.out ?_; intro w9 n9 M)); replace HM := Lib.hid M; clear M; clear fM; have fM := HM.out.fa)))
        all_goals clear fM
        refine nxt HM fun w13 M => ?_
        clear HM; have HM := M; clear M
        obtain ⟨Ahj, hj⟩ := HM.out.get (r := judgeR b J) (by with_reducible repeat first | exact ph | apply pt)
        obtain ⟨Ahn, hn⟩ := HM.out.get (r := noneR nv) (by with_reducible repeat first | exact ph | apply pt)
        refine (same_none2 w13 nv b J hn.none hj).mono ?_
        rintro r wq ⟨rfl, hwq⟩
        rw [hwq]
        clear hwq wq hn hj
        have fM := HM.out.fa
        go_wp2_with (first
          | ((with_reducible refine at_list ?_); first
            | ((with_reducible refine at_load 37 _ rfl ?_); refine ldW 37 _ rfl rfl rfl HM.out Tryz.underlying37 rfl infoRJ ?_)
            | ((first
              | ((with_reducible refine at_store 37 _ _ rfl ?_); refine stW 37 _ _ rfl rfl rfl rfl HM.out infoRJ ?_; intro w9 M)
              | ((with_reducible refine at_box 37 _ rfl ?_); refine boW 37 _ rfl rfl rfl HM.out ?_; intro w9 n9 M)
              | ((with_reducible refine at_alloc 37 rfl ?_); refine alW 37 rfl rfl (zeroRJ _) HM.out ?_; intro w9 n9 M)); replace HM := Lib.hid M; clear M; clear fM; have fM := HM.out.fa)))
        all_goals clear fM
        refine (works_any _).mono ?_
        rintro r w14 ⟨rfl, hE⟩
        replace HM := Lib.hid (HM.out.ext hE)
        clear hE
        have fM := HM.out.fa
        go_wp2_with (first
          | ((with_reducible refine at_list ?_); first
            | ((with_reducible refine at_load 37 _ rfl ?_); refine ldW 37 _ rfl rfl rfl HM.out Tryz.underlying37 rfl infoRJ ?_)
            | ((first
              | ((with_reducible refine at_store 37 _ _ rfl ?_); refine stW 37 _ _ rfl rfl rfl rfl HM.out infoRJ ?_; intro w9 M)
              | ((with_reducible refine at_box 37 _ rfl ?_); refine boW 37 _ rfl rfl rfl HM.out ?_; intro w9 n9 M)
              | ((with_reducible refine at_alloc 37 rfl ?_); refine alW 37 rfl rfl (zeroRJ _) HM.out ?_; intro w9 n9 M)); replace HM := Lib.hid M; clear M; clear fM; have fM := HM.out.fa)))
        all_goals clear fM
        refine nxt HM fun w15 M => ?_
        clear HM; have HM := M; clear M
        obtain ⟨B1, B2, q1, q2, q3⟩ := HM.out.apart (r := cellsR w.heap.size 4 [.bool true]) (r' := markR D0) (by with_reducible repeat first | exact ph | apply pt) (by with_reducible repeat first | exact ph | apply pt)
        have d1 : w.heap.size ≠ D0 := fun h => q3 _ ((q1.1 _).2 rfl) ((q2.1 _).2 h)
        refine leaves_marks [D0] _ (by simp) ?_ ?_
        · intro D hD
          simp only [List.mem_cons, List.not_mem_nil, or_false] at hD
          obtain rfl := hD
          exact q2.2
        · intro w' hk
          have q0 := (q1.2.keeps hk (by simp; omega)).reads.1
          obtain ⟨G1, g1, -, g2⟩ := (HM.out.pick (r := markR D0) (by with_reducible repeat first | exact ph | apply pt)).upd
          have e1 : w.heap.size ≤ D0 := (g2 _ ((g1.1 _).2 rfl)).resolve_left (noB _)
          refine ⟨.bool true, by simp [results, Tryz.results3, go_sem, q0], rfl, ?_⟩
          refine HM.out.extTo.then hk fun i hi h => ?_
          simp only [List.mem_cons, List.not_mem_nil, or_false] at h
          omega
theorem sees_bad {A : Nat → Prop} (w : World) (c m : Int) (v : Value) (l : List Sn) (h : Sns w A v l) (hl : l.length ≤ 9223372036854775807) (hA : ∀ k, A k → k < w.heap.size) (hT : Tabs w) (hf : fewB l 50 = true) (hok : ¬ (RightC c ∧ 1 ≤ m ∧ m ≤ 16)) :
    Calls Tryz.prog 3 #[.int .i64 c, .int .i64 m, v] w fun e w' => e = .returned (.bool true) ∧ Ext w w' := by
  have HOKC := Lib.hid hok
  clear hok
  have HV := Lib.hid h
  have HL := Lib.hid hl
  have HA := Lib.hid hA
  have HT := Lib.hid hT
  have HM := Lib.hid (Mem.start0 w)
  have HF := Lib.hid hf
  clear h hl hA hT hf
  refine (callsIn_wide (n := 9)).1 (callsIn_of_wp_marks Tryz.func3 rfl trivial ?_ rfl)
  simp only [Tryz.ntmps3, List.size_toArray, List.length_cons, List.length_nil, Nat.reduceAdd, Nat.reduceSub, Array.replicate_succ, Array.replicate_zero, List.push_toArray, List.append_toArray, List.nil_append, List.cons_append]
  refine wpIn_wide.2 ?_
  have fM := HM.out.fa
  go_wp2_with fail
  all_goals clear fM
  refine nxt HM fun w1 M => ?_
  clear HM; have HM := M; clear M
  refine (few_any w1 v l 50 (HV.out.ext HM.out.extTo) HL.out (fun k hk => Nat.lt_of_lt_of_le (HA.out k hk) HM.out.extTo.size)).mono ?_
  rintro r wq ⟨rfl, hwq⟩
  rw [hwq, HF.out]
  clear hwq wq
  have fM := HM.out.fa
  go_wp2_with fail
  all_goals clear fM
  refine nxt HM fun w2 M => ?_
  clear HM; have HM := M; clear M
  refine (judge_new_bad w2 c m HOKC.out).mono ?_
  rintro r w3 ⟨rfl, hE⟩
  replace HM := Lib.hid (HM.out.ext hE)
  clear hE
  have fM := HM.out.fa
  go_wp2_with fail
  all_goals clear fM
  refine nxt HM fun w3 M => ?_
  clear HM; have HM := M; clear M
  refine (rnew_bad w3 c m HOKC.out).mono ?_
  rintro r w4 ⟨rfl, hE⟩
  replace HM := Lib.hid (HM.out.ext hE)
  clear hE
  have HLEN := Lib.hid (show zRJ.length = 31 from rfl)
  have HONE := Lib.hid zRJ_one
  have HWD : Wd _ _ := ⟨HLEN.out, HONE.out⟩
  obtain ⟨a, cap, rfl⟩ := HV.out.len
  have hpar : (l.length : Int) % 2 = 1 ∨ (l.length : Int) % 2 = 0 := by omega
  have h50 := (fewB_text HF.out).2
  rcases hpar with hp | hp
  case' inl =>
    have hp' : ((l.length : Int) % 2 == 1) = true := by simpa using hp
    clear hp
    have fM := HM.out.fa
    go_wp2_with (first
      | ((with_reducible refine at_list ?_); first
        | ((with_reducible refine at_load 37 _ rfl ?_); refine ldW 37 _ rfl rfl rfl HM.out Tryz.underlying37 rfl infoRJ ?_)
        | ((first
          | ((with_reducible refine at_store 37 _ _ rfl ?_); refine stW 37 _ _ rfl rfl rfl rfl HM.out infoRJ ?_; intro w9 M)
          | ((with_reducible refine at_box 37 _ rfl ?_); refine boW 37 _ rfl rfl rfl HM.out ?_; intro w9 n9 M)
          | ((with_reducible refine at_alloc 37 rfl ?_); refine alW 37 rfl rfl (zeroRJ _) HM.out ?_; intro w9 n9 M)); replace HM := Lib.hid M; clear M; clear fM; have fM := HM.out.fa)))
    all_goals clear fM
    refine nxt HM fun w5 M => ?_
    clear HM; have HM := M; clear M
    rename Nat => nw
    obtain ⟨nz, hnz⟩ : ∃ nz, w9.heap.size = nz := ⟨_, rfl⟩
    rw [hnz] at HM ⊢
    clear hnz
    replace HM := Lib.hid (HM.out.noneZ (b := nz) (t := 45) (by with_reducible repeat first | exact ph | apply pt) rfl)
    obtain ⟨nv, hnv⟩ : ∃ nv, Value.pointer (some ⟨nz, 0, none⟩) = nv := ⟨_, rfl⟩
    rw [hnv] at HM ⊢
    have HNV := Lib.hid hnv
    clear hnv
  case' inr =>
    have hp' : ((l.length : Int) % 2 == 1) = false := by simp; omega
    clear hp
    have fM := HM.out.fa
    go_wp2_with (first
      | ((with_reducible refine at_list ?_); first
        | ((with_reducible refine at_load 37 _ rfl ?_); refine ldW 37 _ rfl rfl rfl HM.out Tryz.underlying37 rfl infoRJ ?_)
        | ((first
          | ((with_reducible refine at_store 37 _ _ rfl ?_); refine stW 37 _ _ rfl rfl rfl rfl HM.out infoRJ ?_; intro w9 M)
          | ((with_reducible refine at_box 37 _ rfl ?_); refine boW 37 _ rfl rfl rfl HM.out ?_; intro w9 n9 M)
          | ((with_reducible refine at_alloc 37 rfl ?_); refine alW 37 rfl rfl (zeroRJ _) HM.out ?_; intro w9 n9 M)); replace HM := Lib.hid M; clear M; clear fM; have fM := HM.out.fa)))
    all_goals clear fM
    refine nxt HM fun w5 M => ?_
    clear HM; have HM := M; clear M
    rename Nat => nw
    replace HM := Lib.hid HM.out.noneNil
    obtain ⟨nv, hnv⟩ : ∃ nv, Value.pointer none = nv := ⟨_, rfl⟩
    rw [hnv] at HM ⊢
    have HNV := Lib.hid hnv
    clear hnv
  all_goals
    obtain ⟨Ahn, hn⟩ := HM.out.get (r := noneR nv) (by with_reducible repeat first | exact ph | apply pt)
    refine (none_whole w5 nv hn.none).mono ?_
    rintro r wq ⟨rfl, hwq⟩
    rw [hwq]
    clear hwq wq hn
    have hsn := fun w => seq_none w
    have fM := HM.out.fa
    go_wp2_with fail
    all_goals clear fM
    clear hsn
    refine nxt HM fun w6 M => ?_
    clear HM; have HM := M; clear M
    obtain ⟨Ahn, hn⟩ := HM.out.get (r := noneR nv) (by with_reducible repeat first | exact ph | apply pt)
    refine (none_whole w6 nv hn.none).mono ?_
    rintro r wq ⟨rfl, hwq⟩
    rw [hwq]
    clear hwq wq hn
    have fM := HM.out.fa
    go_wp2_with fail
    all_goals clear fM
    refine nxt HM fun w7 M => ?_
    clear HM; have HM := M; clear M
    refine (wpIn_wide (n := 9)).1 ?_
    refine wpIn_range rfl (by omega) (gf := 25) (lb := #[]) rfl trivial (enters_of Tryz.func25 (by kernel_rfl) rfl)
      (S := NoB) (none_iter w7) (by rintro x v W0 W rfl; rfl)
      (fun k W => Keeps NoB w7 W) (fun c k W => False) (fun k W h => h)
      (fun k W W' h hk => h.then hk (fun i hi h => by unfold OneB at h; omega))
      (fun c k W W' h hk => h) (Keeps.refl _ _) (fun k hk => absurd hk (Nat.not_lt_zero k)) ?_ (fun c k W hk h => h.elim)
    intro W hW hm
    replace HM := Lib.hid (HM.out.new (r := markR w7.heap.size) (G := fun k => k = w7.heap.size) hW ⟨fun _ => Iff.rfl, hm⟩ (fun k hk => by omega))
    clear hW hm
    have fM := HM.out.fa
    go_wp2_with fail
    all_goals clear fM
    refine nxt HM fun w8 M => ?_
    clear HM; have HM := M; clear M
    obtain ⟨Ahn, hn⟩ := HM.out.get (r := noneR nv) (by with_reducible repeat first | exact ph | apply pt)
    refine (none_see w8 nv ⟨3, 0, 0, ⟨0, 0, 0, []⟩⟩ hn.none).mono ?_
    rintro r wq ⟨rfl, hE⟩
    replace HM := Lib.hid (HM.out.ext hE)
    clear hE hn
    have fM := HM.out.fa
    go_wp2_with fail
    all_goals clear fM
    refine (num_any _ _).mono ?_
    rintro r wq ⟨rfl, hwq⟩
    rw [hwq]
    clear hwq wq
    have fM := HM.out.fa
    go_wp2_with fail
    all_goals clear fM
    refine nxt HM fun w6 M => ?_
    clear HM; have HM := M; clear M
    obtain ⟨Ahn, hn⟩ := HM.out.get (r := noneR nv) (by with_reducible repeat first | exact ph | apply pt)
    refine (none_place w6 nv 0 hn.none).mono ?_
    rintro r wq ⟨rfl, hwq⟩
    rw [hwq]
    clear hwq wq hn
    have fM := HM.out.fa
    go_wp2_with fail
    all_goals clear fM
    refine nxt HM fun w6 M => ?_
    clear HM; have HM := M; clear M
    obtain ⟨Ahn, hn⟩ := HM.out.get (r := noneR nv) (by with_reducible repeat first | exact ph | apply pt)
    refine (none_member w6 nv 0 hn.none).mono ?_
    rintro r wq ⟨rfl, hwq⟩
    rw [hwq]
    clear hwq wq hn
    have fM := HM.out.fa
    go_wp2_with fail
    all_goals clear fM
    refine nxt HM fun w6 M => ?_
    clear HM; have HM := M; clear M
    obtain ⟨Ahn, hn⟩ := HM.out.get (r := noneR nv) (by with_reducible repeat first | exact ph | apply pt)
    refine (none_broken w6 nv hn.none).mono ?_
    rintro r wq ⟨rfl, hwq⟩
    rw [hwq]
    clear hwq wq hn
    have fM := HM.out.fa
    go_wp2_with fail
    all_goals clear fM
    refine nxt HM fun w6 M => ?_
    clear HM; have HM := M; clear M
    obtain ⟨Ahn, hn⟩ := HM.out.get (r := noneR nv) (by with_reducible repeat first | exact ph | apply pt)
    refine (none_copy w6 nv hn.none).mono ?_
    rintro r wq ⟨rfl, hwq⟩
    rw [hwq]
    clear hwq wq hn
    have fM := HM.out.fa
    go_wp2_with fail
    all_goals clear fM
    refine nxt HM fun w6 M => ?_
    clear HM; have HM := M; clear M
    obtain ⟨Ahn, hn⟩ := HM.out.get (r := noneR nv) (by with_reducible repeat first | exact ph | apply pt)
    refine (same_none1 w6 nv (.pointer none) hn.none (.inl rfl)).mono ?_
    rintro r wq ⟨rfl, hwq⟩
    rw [hwq]
    clear hwq wq hn
    try rw [← HNV.out]
    have fM := HM.out.fa
    go_wp2_with fail
    all_goals clear fM
    obtain ⟨D0, hD0⟩ : ∃ D0, w7.heap.size = D0 := ⟨_, rfl⟩
    rw [hD0] at HM ⊢
    clear hD0
    refine (num_any _ _).mono ?_
    rintro r wq ⟨rfl, hwq⟩
    rw [hwq]
    clear hwq wq
    have fM := HM.out.fa
    go_wp2_with fail
    all_goals clear fM
    refine (works_any _).mono ?_
    rintro r w14 ⟨rfl, hE⟩
    replace HM := Lib.hid (HM.out.ext hE)
    clear hE
    have fM := HM.out.fa
    go_wp2_with fail
    all_goals clear fM
    refine nxt HM fun w15 M => ?_
    clear HM; have HM := M; clear M
    obtain ⟨B1, B2, q1, q2, q3⟩ := HM.out.apart (r := cellsR w.heap.size 4 [.bool true]) (r' := markR D0) (by with_reducible repeat first | exact ph | apply pt) (by with_reducible repeat first | exact ph | apply pt)
    have d1 : w.heap.size ≠ D0 := fun h => q3 _ ((q1.1 _).2 rfl) ((q2.1 _).2 h)
    refine leaves_marks [D0] _ (by simp) ?_ ?_
    · intro D hD
      simp only [List.mem_cons, List.not_mem_nil, or_false] at hD
      obtain rfl := hD
      exact q2.2
    · intro w' hk
      have q0 := (q1.2.keeps hk (by simp; omega)).reads.1
      obtain ⟨G1, g1, -, g2⟩ := (HM.out.pick (r := markR D0) (by with_reducible repeat first | exact ph | apply pt)).upd
      have e1 : w.heap.size ≤ D0 := (g2 _ ((g1.1 _).2 rfl)).resolve_left (noB _)
      refine ⟨.bool true, by simp [results, Tryz.results3, go_sem, q0], rfl, ?_⟩
      refine HM.out.extTo.then hk fun i hi h => ?_
      simp only [List.mem_cons, List.not_mem_nil, or_false] at h
      omega
theorem sees_walk {A : Nat → Prop} (w : World) (c m : Int) (v : Value) (l : List Sn) (h : Sns w A v l) (hl : l.length ≤ 9223372036854775807) (hA : ∀ k, A k → k < w.heap.size) (hT : Tabs w) :
    Calls Tryz.prog 3 #[.int .i64 c, .int .i64 m, v] w fun e w' => e = .returned (.bool true) ∧ Ext w w' := by
  cases hf : fewB l 50 with
  | false => exact sees_few w c m v l h hl hA hT hf
  | true =>
    by_cases hok : RightC c ∧ 1 ≤ m ∧ m ≤ 16
    · exact sees_in w c m v l h hl hA hT hf hok
    · exact sees_bad w c m v l h hl hA hT hf hok
end Go.Proofs.YthhdgjofagdjeaaGreatDoor
end
section
/- Which talks are the same, as chat.Same and the document's Same tell it. Conditions: they lie as 'TalkX' and 'RowAt' say. -/
set_option linter.unusedVariables false
set_option linter.unusedSimpArgs false
set_option maxHeartbeats 2000000
set_option maxRecDepth 100000
namespace Go.Proofs.YthhdgjofagdjeaaGreatDoor
open Go.RowKit
theorem eqIn_st (x y : St) (W : World) : (Op.equalIn 9999 95 (.agg x.cells.toArray) (.agg y.cells.toArray)).run Tryz.prog W = .ok (decide (x = y)) W := by
  obtain ⟨a, b, c⟩ := x
  obtain ⟨a', b', c'⟩ := y
  unfold St.cells
  go_simp
  repeat' split
  all_goals simp_all
theorem ne_ln (x y : Ln) (W : World) : (binOp .neq 76 (.agg #[.int .i64 x.idx, .int .i64 x.slot, .int .i64 x.e.kind, .int .i64 x.e.member, .int .i64 x.e.number, .string (bs x.e.text)]) (.agg #[.int .i64 y.idx, .int .i64 y.slot, .int .i64 y.e.kind, .int .i64 y.e.member, .int .i64 y.e.number, .string (bs y.e.text)])).run Tryz.prog W = .ok (.bool (!decide (x = y))) W := by
  obtain ⟨a, b, ⟨k, m, n, s⟩⟩ := x
  obtain ⟨a', b', ⟨k', m', n', s'⟩⟩ := y
  go_simp
  rw [bs_toList, bs_toList]
  repeat' split
  all_goals simp_all
theorem ln_6 {w : World} {a : Option Addr} {c : Nat} {l : List Ln} (h : RowAt lnE w 0 (.slice a l.length c) l) (k : Nat) (hk : k < l.length) :
    ∃ g o, a = some ⟨g, o, none⟩ ∧ g < w.heap.size ∧ w.cell? ⟨g, o + k * 6, none⟩ = some (.int .i64 l[k].idx) ∧ w.cell? ⟨g, o + k * 6 + 1, none⟩ = some (.int .i64 l[k].slot) ∧ w.cell? ⟨g, o + k * 6 + 2, none⟩ = some (.int .i64 l[k].e.kind) ∧ w.cell? ⟨g, o + k * 6 + 3, none⟩ = some (.int .i64 l[k].e.member) ∧ w.cell? ⟨g, o + k * 6 + 4, none⟩ = some (.int .i64 l[k].e.number) ∧ w.cell? ⟨g, o + k * 6 + 5, none⟩ = some (.string (bs l[k].e.text)) := by
  obtain ⟨g, o, hv, hg, h3⟩ := h.at k hk
  exact ⟨g, o, hv, hg, h3 0 (by decide), h3 1 (by decide), h3 2 (by decide), h3 3 (by decide), h3 4 (by decide), h3 5 (by decide)⟩
theorem lines_equal (w : World) (v v' : Value) (l m : List Ln) (hl : RowAt lnE w 0 v l) (hm : RowAt lnE w 0 v' m) (h1 : l.length ≤ 4096) (h2 : m.length ≤ 4096) :
    Calls Tryz.prog 60 #[v, v'] w fun e w' => e = .returned (.bool (decide (l = m))) ∧ Ext w w' := by
  obtain ⟨al, cl, rfl⟩ := hl.len
  obtain ⟨am, cm, rfl⟩ := hm.len
  have HA := Lib.hid hl
  have HB := Lib.hid hm
  by_cases hlen : l.length = m.length
  case neg =>
    have HQ := Lib.hid (show decide (l = m) = false from decide_eq_false fun h => hlen (by rw [h]))
    have g1 : ¬ ((l.length : Int) = (m.length : Int)) := by omega
    clear hl hm hlen
    go_enter Tryz.func60, Tryz.ntmps60
    go_wp2_with fail
    go_ret
    exact ⟨by rw [HQ.out]; rfl, Keeps.refl _ _⟩
  obtain ⟨n, hn⟩ : ∃ n, l.length = n := ⟨_, rfl⟩
  have hn' : m.length = n := by omega
  have HN := Lib.hid hn
  have HN' := Lib.hid hn'
  rw [hn] at HA h1
  rw [hn'] at HB
  rw [hn, hn']
  clear hl hm hlen hn hn' h2
  go_enter Tryz.func60, Tryz.ntmps60
  go_wp2_with fail
  go_loopw [13] (fun i wr => ∃ k : Nat, k ≤ n ∧ i = .int .i64 k ∧ Hid (Ext w wr) ∧ Hid (∀ j : Nat, j < k → l[j]? = m[j]?)) (fun i _ => n - (intOf i).toNat)
  case atStart => exact ⟨0, Nat.zero_le _, rfl, Lib.hid (Keeps.refl _ _), Lib.hid fun j h => absurd h (by omega)⟩
  case round =>
    obtain ⟨k, hk, rfl, HE, HP⟩ := hrel
    by_cases hlt : k < n
    · obtain ⟨g, o, rfl, hg, d0, d1, d2, d3, d4, d5⟩ := ln_6 (by rw [HN.out]; exact HA.out.ext HE.out) k (by rw [HN.out]; exact hlt)
      obtain ⟨g', o', rfl, hg', f0, f1, f2, f3, f4, f5⟩ := ln_6 (by rw [HN'.out]; exact HB.out.ext HE.out) k (by rw [HN'.out]; exact hlt)
      obtain ⟨x, hx⟩ : ∃ x, l[k]'(by rw [HN.out]; exact hlt) = x := ⟨_, rfl⟩
      obtain ⟨y, hy⟩ : ∃ y, m[k]'(by rw [HN'.out]; exact hlt) = y := ⟨_, rfl⟩
      rw [hx] at d0 d1 d2 d3 d4 d5
      rw [hy] at f0 f1 f2 f3 f4 f5
      have HX := Lib.hid (show l[k]? = some x by rw [List.getElem?_eq_getElem (by rw [HN.out]; exact hlt), hx])
      have HY := Lib.hid (show m[k]? = some y by rw [List.getElem?_eq_getElem (by rw [HN'.out]; exact hlt), hy])
      have g1 : (k : Int) < (n : Int) := by omega
      have g2 : ¬ (k : Int) < 0 := by omega
      have g3 : (k : Int) < 4096 := by omega
      have hq := fun W => ne_ln x y W
      have HK := Lib.hid hlt
      clear hx hy hlt
      by_cases hd : x = y
      · rw [decide_eq_true hd] at hq
        have HD := Lib.hid hd
        clear hd
        go_wp2_with fail
        have hE0 : Keeps NoB wr wr.drew := (Keeps.refl _ _).drew
        refine wp_region_plan [(0, 0), (0, 1), (0, 2), (3, 3), (0, 4), (0, 5), (0, 6), (3, 7), (0, 8)] [] [] [] (ClsE wr) (by kernel_rfl) (by kernel_rfl) (by kernel_rfl) rfl rfl (ClsE.of hE0) (fun _ _ _ d _ h => by cases d <;> exact h) ?_; simp only [planL, nL]
        iterate 2 (refine pM _ rfl rfl ?_; simp only [nP, nE])
        refine pR (v := ?_) rfl (fun W => ?_) ?_; rotate_left; (go_simp <;> with_reducible rfl); simp only [nP]
        refine pX (v := ?_) rfl ?_ ?_; rotate_left; (go_simp <;> with_reducible rfl); simp only [nP]
        iterate 2 (refine pM _ rfl rfl ?_; simp only [nP, nE])
        refine pR (v := ?_) rfl (fun W => ?_) ?_; rotate_left; (go_simp <;> with_reducible rfl); simp only [nP]
        refine pX (v := ?_) rfl ?_ ?_; rotate_left; (go_simp <;> with_reducible rfl); simp only [nP]
        refine pR (v := ?_) rfl (fun W => ?_) ?_; rotate_left; (go_simp <;> with_reducible rfl); simp only [nP]
        refine plan_nil ?_; simp only [tailL, List.filterMap_nil]
        go_wp2_with fail
        go_roundw
        case rel =>
          refine ⟨k + 1, by have := HK.out; omega, by go_num, Lib.hid HE.out.drew, Lib.hid fun j hj => ?_⟩
          by_cases hjk : j = k
          · subst hjk; rw [HX.out, HY.out, HD.out]
          · exact HP.out j (by omega)
        case measure => have := HK.out; simp [intOf]; omega
      · rw [decide_eq_false hd] at hq
        have HD := Lib.hid hd
        clear hd
        go_wp2_with fail
        have hE0 : Keeps NoB wr wr.drew := (Keeps.refl _ _).drew
        refine wp_region_plan [(0, 0), (0, 1), (0, 2), (3, 3), (0, 4), (0, 5), (0, 6), (3, 7), (0, 8)] [] [] [] (ClsE wr) (by kernel_rfl) (by kernel_rfl) (by kernel_rfl) rfl rfl (ClsE.of hE0) (fun _ _ _ d _ h => by cases d <;> exact h) ?_; simp only [planL, nL]
        iterate 2 (refine pM _ rfl rfl ?_; simp only [nP, nE])
        refine pR (v := ?_) rfl (fun W => ?_) ?_; rotate_left; (go_simp <;> with_reducible rfl); simp only [nP]
        refine pX (v := ?_) rfl ?_ ?_; rotate_left; (go_simp <;> with_reducible rfl); simp only [nP]
        iterate 2 (refine pM _ rfl rfl ?_; simp only [nP, nE])
        refine pR (v := ?_) rfl (fun W => ?_) ?_; rotate_left; (go_simp <;> with_reducible rfl); simp only [nP]
        refine pX (v := ?_) rfl ?_ ?_; rotate_left; (go_simp <;> with_reducible rfl); simp only [nP]
        refine pR (v := ?_) rfl (fun W => ?_) ?_; rotate_left; (go_simp <;> with_reducible rfl); simp only [nP]
        refine plan_nil ?_; simp only [tailL, List.filterMap_nil]
        go_wp2_with fail
        go_ret
        refine ⟨?_, HE.out.drew⟩
        rw [decide_eq_false fun h => HD.out (Option.some.inj (by rw [← HX.out, ← HY.out, h]))]; rfl
    · have HQ := Lib.hid (show decide (l = m) = true from decide_eq_true (by
        apply List.ext_getElem?
        intro j
        by_cases hj : j < k
        · exact HP.out j hj
        · rw [List.getElem?_eq_none (by have := HN.out; omega), List.getElem?_eq_none (by have := HN'.out; omega)]))
      have g1 : ¬ (k : Int) < (n : Int) := by omega
      clear hlt hk
      go_wp2_with fail
      go_ret
      exact ⟨by rw [HQ.out]; rfl, HE.out⟩
theorem rlines_same (w : World) (v v' : Value) (l m : List Ln) (hl : RowAt lnE w 0 v l) (hm : RowAt lnE w 0 v' m) (h1 : l.length ≤ 4096) (h2 : m.length ≤ 4096) :
    Calls Tryz.prog 64 #[v, v'] w fun e w' => e = .returned (.bool (decide (l = m))) ∧ Ext w w' := by
  obtain ⟨al, cl, rfl⟩ := hl.len
  obtain ⟨am, cm, rfl⟩ := hm.len
  have HA := Lib.hid hl
  have HB := Lib.hid hm
  by_cases hlen : l.length = m.length
  case neg =>
    have HQ := Lib.hid (show decide (l = m) = false from decide_eq_false fun h => hlen (by rw [h]))
    have g1 : ¬ ((l.length : Int) = (m.length : Int)) := by omega
    clear hl hm hlen
    go_enter Tryz.func64, Tryz.ntmps64
    go_wp2_with fail
    go_ret
    exact ⟨by rw [HQ.out]; rfl, Keeps.refl _ _⟩
  obtain ⟨n, hn⟩ : ∃ n, l.length = n := ⟨_, rfl⟩
  have hn' : m.length = n := by omega
  have HN := Lib.hid hn
  have HN' := Lib.hid hn'
  rw [hn] at HA h1
  rw [hn'] at HB
  rw [hn, hn']
  clear hl hm hlen hn hn' h2
  go_enter Tryz.func64, Tryz.ntmps64
  go_wp2_with fail
  go_loopw [5] (fun i wr => ∃ k : Nat, k ≤ n ∧ i = .int .i64 k ∧ Hid (Ext w wr) ∧ Hid (∀ j : Nat, j < k → l[j]? = m[j]?)) (fun i _ => n - (intOf i).toNat)
  case atStart => exact ⟨0, Nat.zero_le _, rfl, Lib.hid (Keeps.refl _ _), Lib.hid fun j h => absurd h (by omega)⟩
  case round =>
    obtain ⟨k, hk, rfl, HE, HP⟩ := hrel
    by_cases hlt : k < n
    · obtain ⟨g, o, rfl, hg, d0, d1, d2, d3, d4, d5⟩ := ln_6 (by rw [HN.out]; exact HA.out.ext HE.out) k (by rw [HN.out]; exact hlt)
      obtain ⟨g', o', rfl, hg', f0, f1, f2, f3, f4, f5⟩ := ln_6 (by rw [HN'.out]; exact HB.out.ext HE.out) k (by rw [HN'.out]; exact hlt)
      obtain ⟨x, hx⟩ : ∃ x, l[k]'(by rw [HN.out]; exact hlt) = x := ⟨_, rfl⟩
      obtain ⟨y, hy⟩ : ∃ y, m[k]'(by rw [HN'.out]; exact hlt) = y := ⟨_, rfl⟩
      rw [hx] at d0 d1 d2 d3 d4 d5
      rw [hy] at f0 f1 f2 f3 f4 f5
      have HX := Lib.hid (show l[k]? = some x by rw [List.getElem?_eq_getElem (by rw [HN.out]; exact hlt), hx])
      have HY := Lib.hid (show m[k]? = some y by rw [List.getElem?_eq_getElem (by rw [HN'.out]; exact hlt), hy])
      have g1 : (k : Int) < (n : Int) := by omega
      have g2 : ¬ (k : Int) < 0 := by omega
      have g3 : (k : Int) < 4096 := by omega
      have hq := fun W => ne_ln x y W
      have HK := Lib.hid hlt
      clear hx hy hlt
      by_cases hd : x = y
      · rw [decide_eq_true hd] at hq
        have HD := Lib.hid hd
        clear hd
        go_wp2_with fail
        have hE0 : Keeps NoB wr wr.drew := (Keeps.refl _ _).drew
        refine wp_region_plan [(0, 0), (0, 1), (0, 2), (3, 3), (0, 4), (0, 5), (0, 6), (3, 7), (0, 8)] [] [] [] (ClsE wr) (by kernel_rfl) (by kernel_rfl) (by kernel_rfl) rfl rfl (ClsE.of hE0) (fun _ _ _ d _ h => by cases d <;> exact h) ?_; simp only [planL, nL]
        iterate 2 (refine pM _ rfl rfl ?_; simp only [nP, nE])
        refine pR (v := ?_) rfl (fun W => ?_) ?_; rotate_left; (go_simp <;> with_reducible rfl); simp only [nP]
        refine pX (v := ?_) rfl ?_ ?_; rotate_left; (go_simp <;> with_reducible rfl); simp only [nP]
        iterate 2 (refine pM _ rfl rfl ?_; simp only [nP, nE])
        refine pR (v := ?_) rfl (fun W => ?_) ?_; rotate_left; (go_simp <;> with_reducible rfl); simp only [nP]
        refine pX (v := ?_) rfl ?_ ?_; rotate_left; (go_simp <;> with_reducible rfl); simp only [nP]
        refine pR (v := ?_) rfl (fun W => ?_) ?_; rotate_left; (go_simp <;> with_reducible rfl); simp only [nP]
        refine plan_nil ?_; simp only [tailL, List.filterMap_nil]
        go_wp2_with fail
        go_roundw
        case rel =>
          refine ⟨k + 1, by have := HK.out; omega, by go_num, Lib.hid HE.out.drew, Lib.hid fun j hj => ?_⟩
          by_cases hjk : j = k
          · subst hjk; rw [HX.out, HY.out, HD.out]
          · exact HP.out j (by omega)
        case measure => have := HK.out; simp [intOf]; omega
      · rw [decide_eq_false hd] at hq
        have HD := Lib.hid hd
        clear hd
        go_wp2_with fail
        have hE0 : Keeps NoB wr wr.drew := (Keeps.refl _ _).drew
        refine wp_region_plan [(0, 0), (0, 1), (0, 2), (3, 3), (0, 4), (0, 5), (0, 6), (3, 7), (0, 8)] [] [] [] (ClsE wr) (by kernel_rfl) (by kernel_rfl) (by kernel_rfl) rfl rfl (ClsE.of hE0) (fun _ _ _ d _ h => by cases d <;> exact h) ?_; simp only [planL, nL]
        iterate 2 (refine pM _ rfl rfl ?_; simp only [nP, nE])
        refine pR (v := ?_) rfl (fun W => ?_) ?_; rotate_left; (go_simp <;> with_reducible rfl); simp only [nP]
        refine pX (v := ?_) rfl ?_ ?_; rotate_left; (go_simp <;> with_reducible rfl); simp only [nP]
        iterate 2 (refine pM _ rfl rfl ?_; simp only [nP, nE])
        refine pR (v := ?_) rfl (fun W => ?_) ?_; rotate_left; (go_simp <;> with_reducible rfl); simp only [nP]
        refine pX (v := ?_) rfl ?_ ?_; rotate_left; (go_simp <;> with_reducible rfl); simp only [nP]
        refine pR (v := ?_) rfl (fun W => ?_) ?_; rotate_left; (go_simp <;> with_reducible rfl); simp only [nP]
        refine plan_nil ?_; simp only [tailL, List.filterMap_nil]
        go_wp2_with fail
        go_ret
        refine ⟨?_, HE.out.drew⟩
        rw [decide_eq_false fun h => HD.out (Option.some.inj (by rw [← HX.out, ← HY.out, h]))]; rfl
    · have HQ := Lib.hid (show decide (l = m) = true from decide_eq_true (by
        apply List.ext_getElem?
        intro j
        by_cases hj : j < k
        · exact HP.out j hj
        · rw [List.getElem?_eq_none (by have := HN.out; omega), List.getElem?_eq_none (by have := HN'.out; omega)]))
      have g1 : ¬ (k : Int) < (n : Int) := by omega
      clear hlt hk
      go_wp2_with fail
      go_ret
      exact ⟨by rw [HQ.out]; rfl, HE.out⟩
end Go.Proofs.YthhdgjofagdjeaaGreatDoor
end
