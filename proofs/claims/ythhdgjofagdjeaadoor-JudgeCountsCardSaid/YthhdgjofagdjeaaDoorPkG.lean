/- Texts JZ, JAA, JAB, one behind the other. Conditions: as each says. -/
import Derived.Test.YthhdgjofagdjeaaDoorPkF
import Derived.Defers
import Derived.Recover
section
/- May something be seen? And what each kind of thing does, each told whole. Condition: the judge lies as 'JudgeX' says; of an entry that says something, that text.Check answers as the document's. -/
set_option linter.unusedVariables false
set_option linter.unusedSimpArgs false
set_option maxHeartbeats 2000000
set_option maxRecDepth 10000
namespace Go.Proofs.YthhdgjofagdjeaaDoor
open Go.RowKit

def putR (J : JA) (who : Int) (e : En) : JA × Int := if e.member = who then (J.putIn e, 0) else (J, 406)
def backR (J : JA) (p : Nat) (index : Int) : JA × Int := if ¬ J.told.getD p 0 ≤ index then (J, 404) else if ¬ index ≤ (J.T.l.length : Int) then (J, 403) else ({ J with told := J.told.set p index }, 0)
def toldR (J : JA) (p : Nat) (index : Int) (e : En) : JA × Int := if ¬ index = J.next.getD p 0 then (J, 403) else if ¬ index < (J.T.l.length : Int) then (J, 405) else if hasB J.T.l index e = false then (J, 400) else ({ J with next := J.next.set p (index + 1) }, 0)
def wentR (J : JA) (p : Nat) (index : Int) : JA × Int := if index ≤ J.next.getD p 0 then ({ J with next := J.next.set p index }, 0) else (J, 403)
theorem upd_same {F : Nat → Prop} {w w' : World} {b : Nat} {J : JA} (h : JudgeX w F b J) (e : Ext w w') : Upd F w w' (judgeR b J) := ⟨F, h.ext e, e.keeps, fun k hk => .inl hk⟩
theorem upd_set {F : Nat → Prop} {w w' : World} {b : Nat} {J : JA} (h : JudgeX w' F b J) (e : Keeps F w w') : Upd F w w' (judgeR b J) := ⟨F, h, e, fun k hk => .inl hk⟩
theorem put_any {F : Nat → Prop} (w : World) (b : Nat) (J : JA) (kind who index : Int) (e : En) (h : JudgeX w F b J) (ho : OkE e) :
    Calls Tryd.prog 44 #[.pointer (some ⟨b, 0, none⟩), (⟨kind, who, index, e⟩ : Sn).v] w fun r w' => r = doneE (putR J who e).2 ∧ Upd F w w' (judgeR b (putR J who e).1) := by
  unfold putR
  by_cases h1 : e.member = who
  · rw [if_pos h1]; exact (put_ok w b J kind who index e h ho h1).mono fun r w' ⟨a, c, d⟩ => ⟨a, upd_set c d⟩
  · rw [if_neg h1]; exact (put_bad w b J kind who index e h h1).mono fun r w' ⟨a, d⟩ => ⟨a, upd_same h d⟩
theorem back_any {F : Nat → Prop} (w : World) (b : Nat) (J : JA) (kind : Int) (p : Nat) (index : Int) (e : En) (h : JudgeX w F b J) (hp : p < 9) :
    Calls Tryd.prog 50 #[.pointer (some ⟨b, 0, none⟩), (⟨kind, p, index, e⟩ : Sn).v] w fun r w' => r = doneE (backR J p index).2 ∧ Upd F w w' (judgeR b (backR J p index).1) := by
  unfold backR
  by_cases h1 : J.told.getD p 0 ≤ index
  · rw [if_neg (fun h => h h1)]
    by_cases h2 : index ≤ (J.T.l.length : Int)
    · rw [if_neg (fun h => h h2)]; exact (back_ok w b J kind p index e h hp h1 h2).mono fun r w' ⟨a, c, d⟩ => ⟨a, upd_set c d⟩
    · rw [if_pos h2]; exact (back_skip w b J kind p index e h hp h1 h2).mono fun r w' ⟨a, d⟩ => ⟨a, upd_same h d⟩
  · rw [if_pos h1]; exact (back_short w b J kind p index e h hp h1).mono fun r w' ⟨a, d⟩ => ⟨a, upd_same h d⟩
theorem told_any {F : Nat → Prop} (w : World) (b : Nat) (J : JA) (kind : Int) (p : Nat) (index : Int) (e : En) (h : JudgeX w F b J) (hp : p < 16) (hl : J.T.l.length ≤ 4096) :
    Calls Tryd.prog 52 #[.pointer (some ⟨b, 0, none⟩), (⟨kind, p, index, e⟩ : Sn).v] w fun r w' => r = doneE (toldR J p index e).2 ∧ Upd F w w' (judgeR b (toldR J p index e).1) := by
  unfold toldR
  by_cases h1 : index = J.next.getD p 0
  · rw [if_neg (fun h => h h1)]
    by_cases h2 : index < (J.T.l.length : Int)
    · rw [if_neg (fun h => h h2)]
      cases h3 : hasB J.T.l index e
      · rw [if_pos rfl]; exact (told_two w b J kind p index e h hp hl h1 h2 h3).mono fun r w' ⟨a, d⟩ => ⟨a, upd_same h d⟩
      · rw [if_neg (by simp)]; exact (told_ok w b J kind p index e h hp hl h1 h2 h3).mono fun r w' ⟨a, c, d⟩ => ⟨a, upd_set c d⟩
    · rw [if_pos h2]; exact (told_early w b J kind p index e h hp hl h1 h2).mono fun r w' ⟨a, d⟩ => ⟨a, upd_same h d⟩
  · rw [if_pos h1]; exact (told_skip w b J kind p index e h hp hl h1).mono fun r w' ⟨a, d⟩ => ⟨a, upd_same h d⟩
theorem went_any {F : Nat → Prop} (w : World) (b : Nat) (J : JA) (kind : Int) (p : Nat) (index : Int) (e : En) (h : JudgeX w F b J) (hp : p < 16) :
    Calls Tryd.prog 53 #[.pointer (some ⟨b, 0, none⟩), (⟨kind, p, index, e⟩ : Sn).v] w fun r w' => r = doneE (wentR J p index).2 ∧ Upd F w w' (judgeR b (wentR J p index).1) := by
  unfold wentR
  by_cases h1 : index ≤ J.next.getD p 0
  · rw [if_pos h1]; exact (went_ok w b J kind p index e h hp h1).mono fun r w' ⟨a, c, d⟩ => ⟨a, upd_set c d⟩
  · rw [if_neg h1]; exact (went_bad w b J kind p index e h hp h1).mono fun r w' ⟨a, d⟩ => ⟨a, upd_same h d⟩

def kindF (n : Int) : Option (Bool × Bool × Int × Nat) :=
  if n = 1 then some (true, false, 0, 44) else if n = 2 then some (true, true, 0, 46) else if n = 3 then some (false, true, 0, 50)
  else if n = 4 then some (false, false, 0, 51) else if n = 5 then some (true, false, 0, 52) else if n = 6 then some (false, false, -1, 53) else none
def kindU (en pl : Bool) (least : Int) (f : Value) : Value := .agg #[.bool en, .bool pl, .int .i64 least, f]
theorem zeroKind (w : World) : (zeroValue 81).run Tryd.prog w = .ok (kindU false false 0 .nilFunc) w := by kernel_rfl
theorem look_kinds (n : Int) : (kindF n = none ∧ lookI kindsD n (kindU false false 0 .nilFunc) = (kindU false false 0 .nilFunc, false)) ∨ ∃ en pl least g, kindF n = some (en, pl, least, g) ∧ lookI kindsD n (kindU false false 0 .nilFunc) = (kindU en pl least (.func (.func g) #[] #[]), true) := by
  by_cases h1 : n = 1
  · subst h1; exact .inr ⟨_, _, _, _, rfl, rfl⟩
  by_cases h2 : n = 2
  · subst h2; exact .inr ⟨_, _, _, _, rfl, rfl⟩
  by_cases h3 : n = 3
  · subst h3; exact .inr ⟨_, _, _, _, rfl, rfl⟩
  by_cases h4 : n = 4
  · subst h4; exact .inr ⟨_, _, _, _, rfl, rfl⟩
  by_cases h5 : n = 5
  · subst h5; exact .inr ⟨_, _, _, _, rfl, rfl⟩
  by_cases h6 : n = 6
  · subst h6; exact .inr ⟨_, _, _, _, rfl, rfl⟩
  refine .inl ⟨by unfold kindF; rw [if_neg h1, if_neg h2, if_neg h3, if_neg h4, if_neg h5, if_neg h6], ?_⟩
  have a1 : ¬ (1 : Int) = n := fun h => h1 h.symm
  have a2 : ¬ (2 : Int) = n := fun h => h2 h.symm
  have a3 : ¬ (3 : Int) = n := fun h => h3 h.symm
  have a4 : ¬ (4 : Int) = n := fun h => h4 h.symm
  have a5 : ¬ (5 : Int) = n := fun h => h5 h.symm
  have a6 : ¬ (6 : Int) = n := fun h => h6 h.symm
  simp [lookI, kindsD, a1, a2, a3, a4, a5, a6]
theorem look_at {w : World} {m : Nat} (h : MapI w m kindsD) (n : Int) (hI : I64 n) (ok : Bool) :
    (Instr.lookup 82 (.map (some m)) (.int .i64 n) ok).run Tryd.prog w = .ok (if ok then .tuple #[(lookI kindsD n (kindU false false 0 .nilFunc)).1, .bool (lookI kindsD n (kindU false false 0 .nilFunc)).2] else (lookI kindsD n (kindU false false 0 .nilFunc)).1) w :=
  MapI.look (D := kindsD) h Tryd.underlying82 Tryd.underlying32 zeroKind hI (by unfold kindsD; simp) ok
def mayE (J : JA) (x : Sn) : Int :=
  match kindF x.kind with
  | none => 2
  | some (en, pl, least, _) => if x.index < least ∨ (en = true ∧ (x.e.kind = 1 ∨ enB x.e = false)) then 2 else if x.who < 0 ∨ (if pl then J.n else J.m) ≤ x.who then 4 else 0
theorem may_any {F : Nat → Prop} (w : World) (b : Nat) (J : JA) (x : Sn) (h : JudgeX w F b J) (hI : I64 x.kind) (hIe : I64 x.e.kind)
    (hC : x.e.kind = 4 → ∀ w1, Ext w w1 → Calls Tryd.prog 65 #[.string (bs x.e.text)] w1 fun r w' => r = .returned (.int .i64 (chk x.e.text : Int)) ∧ Ext w1 w') :
    Calls Tryd.prog 28 #[.pointer (some ⟨b, 0, none⟩), x.v] w fun r w' => r = .returned (.int .i64 (mayE J x)) ∧ Ext w w' := by
  obtain ⟨Ft, tb, mb, h⟩ := h
  obtain ⟨-, -, c25, c26, c27, c28, c29⟩ := J.at tb mb h.l9 h.l16
  have HB := Lib.hid h.box
  have HM := Lib.hid (Mem.start0 w)
  have HI := Lib.hid hI
  have HIE := Lib.hid hIe
  have HC := Lib.hid hC
  clear h hI hIe hC c25 c28 c29
  unfold Sn.v
  rcases look_kinds x.kind with ⟨hn, hk⟩ | ⟨en, pl, least, g, hn, hk⟩
  · skip
    have HK := Lib.hid hk
    have HN := Lib.hid hn
    clear hn hk
    go_enter Tryd.func28, Tryd.ntmps28
    have fM := HM.out.fa
    have fMHB := (HB.out.ext HM.out.extTo).reads
    have fLHB := (HB.out.ext HM.out.extTo).lt
    go_wp2_with fail
    all_goals clear fM fMHB fLHB
    refine nxt HM fun w0 M => ?_
    clear HM; have HM := M; clear M
    have fM := HM.out.fa
    have fMHB := (HB.out.ext HM.out.extTo).reads
    have fLHB := (HB.out.ext HM.out.extTo).lt
    have hE0 : Keeps NoB w0 w0.drew := (Keeps.refl _ _).drew
    refine wp_region_forks [2] [0, 3, 7, 8, 9] (ClsE w0) (by kernel_rfl) ?_
    refine any_seg (L := #[false, true, true, false, false, false, false, false, false, false]) [(0, 1), (1, 2)] 8 (by kernel_rfl) (fun _ _ _ d _ h => by cases d <;> exact h) (by kernel_rfl) (by kernel_rfl) rfl rfl (ClsE.of (by repeat (first | assumption | exact Keeps.refl _ _ | refine Keeps.alloc ?_ _ | refine Keeps.setOne ?_ _ _ | refine Keeps.setCell ?_ _ _ (.inl (by first | rfl | exact .inl rfl | exact .inr rfl | omega)) | refine Keeps.drew ?_))) ?_; simp only [planL, nL]
    refine pR (v := ?_) rfl (fun W => ?_) ?_; rotate_left; (go_simp <;> with_reducible rfl); simp only [nP]
    refine pL (v := ?_) rfl (fun W => ?_) ?_; rotate_left; (go_simp <;> with_reducible rfl); simp only [nP]
    refine plan_nil ?_
    refine any_fork 0 7 (by kernel_rfl) (by kernel_rfl) rfl rfl rfl rfl (fun K hK => ?_) (fun K hK => ?_)
    · skip
      go_wp2_with fail
      refine (kinds_any _).mono ?_
      rintro r w1 ⟨m, rfl, hm, hE1, hm1⟩
      have hE : Ext w0 w1 := hE0.ext hE1
      have hk1 := look_at hm x.kind HI.out true
      have hk2 := look_at (hm.ext ((Keeps.refl NoB w1).alloc (Obj.cells #[.bool false, .bool false, .int .i64 0, .nilFunc] 81))) x.kind HI.out true
      rw [HK.out] at hk1 hk2
      unfold kindU at hk1 hk2
      replace HM := Lib.hid (HM.out.ext hE)
      refine hK _ _ ⟨ClsE.of (by assumption), ?_⟩; clear hK K; try simp only [nP]
      refine any_seg (L := #[true, true, true, false, false, false, false, false, false, false]) [] 7 (by kernel_rfl) (fun _ _ _ d _ h => by cases d <;> exact h) (by kernel_rfl) (by kernel_rfl) rfl rfl (ClsE.of (by repeat (first | assumption | exact Keeps.refl _ _ | refine Keeps.alloc ?_ _ | refine Keeps.setOne ?_ _ _ | refine Keeps.setCell ?_ _ _ (.inl (by first | rfl | exact .inl rfl | exact .inr rfl | omega)) | refine Keeps.drew ?_))) ?_; simp only [planL, nL]
      refine plan_nil ?_
      refine any_fork 3 7 (by kernel_rfl) (by kernel_rfl) rfl rfl rfl rfl (fun K hK => ?_) (fun K hK => ?_)
      · skip
        go_wp2_with fail
        refine ⟨ClsE.of (by repeat (first | assumption | exact Keeps.refl _ _ | refine Keeps.alloc ?_ _ | refine Keeps.setOne ?_ _ _ | refine Keeps.setCell ?_ _ _ (.inl (by first | rfl | exact .inl rfl | exact .inr rfl | omega)) | refine Keeps.drew ?_)), ?_⟩; try simp only [nP]
        refine any_end [(0, 4), (0, 5), (0, 6), (2, 7)] [8, 9] (by kernel_rfl) (fun _ _ _ d _ h => by cases d <;> exact h) (by kernel_rfl) (by kernel_rfl) rfl rfl (ClsE.of (by repeat (first | assumption | exact Keeps.refl _ _ | refine Keeps.alloc ?_ _ | refine Keeps.setOne ?_ _ _ | refine Keeps.setCell ?_ _ _ (.inl (by first | rfl | exact .inl rfl | exact .inr rfl | omega)) | refine Keeps.drew ?_))) ?_; simp only [planL, nL]
        refine pM _ rfl rfl ?_; simp only [nP, nE]
        iterate 2 (refine pR (v := ?_) rfl (fun W => ?_) ?_; rotate_left; (go_simp <;> with_reducible rfl); simp only [nP])
        refine plan_does rfl (fun K hK => ?_)
        go_wp2_with fail
        refine ⟨ClsE.of (by repeat (first | assumption | exact Keeps.refl _ _ | refine Keeps.alloc ?_ _ | refine Keeps.setOne ?_ _ _ | refine Keeps.setCell ?_ _ _ (.inl (by first | rfl | exact .inl rfl | exact .inr rfl | omega)) | refine Keeps.drew ?_)), ?_⟩; try simp only [nP]
        refine plan_nil ?_; simp only [tailL, List.filterMap_cons, List.filterMap_nil, nL]; change wpList _ _ _ (_ :: _ :: []) _ _
        clear hk1 hk2 hm
        clear fM fMHB fLHB
        refine nxt HM fun w2 M => ?_
        clear HM; have HM := M; clear M
        have fM := HM.out.fa
        have fMHB := (HB.out.ext HM.out.extTo).reads
        have fLHB := (HB.out.ext HM.out.extTo).lt
        go_wp2_with fail
        all_goals clear fM fMHB fLHB
        go_ret
        refine ⟨?_, ?_⟩
        rotate_left
        · apply Mem.extTo
          exact HM.out.to
        unfold mayE
        rw [HN.out]
        rfl
      · skip
        go_wp2_with fail
        refine ⟨ClsE.of (by repeat (first | assumption | exact Keeps.refl _ _ | refine Keeps.alloc ?_ _ | refine Keeps.setOne ?_ _ _ | refine Keeps.setCell ?_ _ _ (.inl (by first | rfl | exact .inl rfl | exact .inr rfl | omega)) | refine Keeps.drew ?_)), ?_⟩; try simp only [nP]
        refine any_end [(2, 3), (0, 4), (0, 5), (0, 6)] [8, 9] (by kernel_rfl) (fun _ _ _ d _ h => by cases d <;> exact h) (by kernel_rfl) (by kernel_rfl) rfl rfl (ClsE.of (by repeat (first | assumption | exact Keeps.refl _ _ | refine Keeps.alloc ?_ _ | refine Keeps.setOne ?_ _ _ | refine Keeps.setCell ?_ _ _ (.inl (by first | rfl | exact .inl rfl | exact .inr rfl | omega)) | refine Keeps.drew ?_))) ?_; simp only [planL, nL]
        refine plan_does rfl (fun K hK => ?_)
        go_wp2_with fail
        refine ⟨ClsE.of (by repeat (first | assumption | exact Keeps.refl _ _ | refine Keeps.alloc ?_ _ | refine Keeps.setOne ?_ _ _ | refine Keeps.setCell ?_ _ _ (.inl (by first | rfl | exact .inl rfl | exact .inr rfl | omega)) | refine Keeps.drew ?_)), ?_⟩; try simp only [nP]
        refine pM _ rfl rfl ?_; simp only [nP, nE]
        iterate 2 (refine pR (v := ?_) rfl (fun W => ?_) ?_; rotate_left; (go_simp <;> with_reducible rfl); simp only [nP])
        refine plan_nil ?_; simp only [tailL, List.filterMap_cons, List.filterMap_nil, nL]; change wpList _ _ _ (_ :: _ :: []) _ _
        clear hk1 hk2 hm
        clear fM fMHB fLHB
        refine nxt HM fun w2 M => ?_
        clear HM; have HM := M; clear M
        have fM := HM.out.fa
        have fMHB := (HB.out.ext HM.out.extTo).reads
        have fLHB := (HB.out.ext HM.out.extTo).lt
        go_wp2_with fail
        all_goals clear fM fMHB fLHB
        go_ret
        refine ⟨?_, ?_⟩
        rotate_left
        · apply Mem.extTo
          exact HM.out.to
        unfold mayE
        rw [HN.out]
        rfl
    · skip
      go_wp2_with fail
      refine ⟨ClsE.of (by repeat (first | assumption | exact Keeps.refl _ _ | refine Keeps.alloc ?_ _ | refine Keeps.setOne ?_ _ _ | refine Keeps.setCell ?_ _ _ (.inl (by first | rfl | exact .inl rfl | exact .inr rfl | omega)) | refine Keeps.drew ?_)), ?_⟩; try simp only [nP]
      refine any_end [(2, 0), (2, 3), (0, 4), (0, 5), (0, 6)] [8, 9] (by kernel_rfl) (fun _ _ _ d _ h => by cases d <;> exact h) (by kernel_rfl) (by kernel_rfl) rfl rfl (ClsE.of (by repeat (first | assumption | exact Keeps.refl _ _ | refine Keeps.alloc ?_ _ | refine Keeps.setOne ?_ _ _ | refine Keeps.setCell ?_ _ _ (.inl (by first | rfl | exact .inl rfl | exact .inr rfl | omega)) | refine Keeps.drew ?_))) ?_; simp only [planL, nL]
      refine plan_does rfl (fun K hK => ?_)
      go_wp2_with fail
      refine (kinds_any _).mono ?_
      rintro r w1 ⟨m, rfl, hm, hE1, hm1⟩
      have hE : Ext (w0.alloc (Obj.cells #[.bool false, .bool false, .int .i64 0, .nilFunc] 81)) w1 := (Ext.drew0 _).ext hE1
      have hEE : Ext w0 w1 := ((Keeps.refl NoB w0).alloc _).ext hE
      have hk1 := look_at hm x.kind HI.out true
      rw [HK.out] at hk1
      unfold kindU at hk1
      replace HM := Lib.hid ((Mem.alloc (cs := [.bool false, .bool false, .int .i64 0, .nilFunc]) (t := 81) HM.out rfl).ext hE)
      refine hK _ _ ⟨ClsE.of (by assumption), ?_⟩; clear hK K; try simp only [nP]
      refine plan_does rfl (fun K hK => ?_)
      go_wp2_with fail
      refine ⟨ClsE.of (by repeat (first | assumption | exact Keeps.refl _ _ | refine Keeps.alloc ?_ _ | refine Keeps.setOne ?_ _ _ | refine Keeps.setCell ?_ _ _ (.inl (by first | rfl | exact .inl rfl | exact .inr rfl | omega)) | refine Keeps.drew ?_)), ?_⟩; try simp only [nP]
      refine pM _ rfl rfl ?_; simp only [nP, nE]
      iterate 2 (refine pR (v := ?_) rfl (fun W => ?_) ?_; rotate_left; (go_simp <;> with_reducible rfl); simp only [nP])
      refine plan_nil ?_; simp only [tailL, List.filterMap_cons, List.filterMap_nil, nL]; change wpList _ _ _ (_ :: _ :: []) _ _
      clear hk1 hm
      clear fM fMHB fLHB
      refine nxt HM fun w2 M => ?_
      clear HM; have HM := M; clear M
      have fM := HM.out.fa
      have fMHB := (HB.out.ext HM.out.extTo).reads
      have fLHB := (HB.out.ext HM.out.extTo).lt
      go_wp2_with fail
      all_goals clear fM fMHB fLHB
      go_ret
      refine ⟨?_, ?_⟩
      rotate_left
      · apply Mem.extTo
        exact HM.out.to
      unfold mayE
      rw [HN.out]
      rfl
  · skip
    have HK := Lib.hid hk
    have HN := Lib.hid hn
    clear hn hk
    go_enter Tryd.func28, Tryd.ntmps28
    have fM := HM.out.fa
    have fMHB := (HB.out.ext HM.out.extTo).reads
    have fLHB := (HB.out.ext HM.out.extTo).lt
    go_wp2_with fail
    all_goals clear fM fMHB fLHB
    refine nxt HM fun w0 M => ?_
    clear HM; have HM := M; clear M
    have fM := HM.out.fa
    have fMHB := (HB.out.ext HM.out.extTo).reads
    have fLHB := (HB.out.ext HM.out.extTo).lt
    have hE0 : Keeps NoB w0 w0.drew := (Keeps.refl _ _).drew
    refine wp_region_forks [2] [0, 3, 7, 8, 9] (ClsE w0) (by kernel_rfl) ?_
    refine any_seg (L := #[false, true, true, false, false, false, false, false, false, false]) [(0, 1), (1, 2)] 8 (by kernel_rfl) (fun _ _ _ d _ h => by cases d <;> exact h) (by kernel_rfl) (by kernel_rfl) rfl rfl (ClsE.of (by repeat (first | assumption | exact Keeps.refl _ _ | refine Keeps.alloc ?_ _ | refine Keeps.setOne ?_ _ _ | refine Keeps.setCell ?_ _ _ (.inl (by first | rfl | exact .inl rfl | exact .inr rfl | omega)) | refine Keeps.drew ?_))) ?_; simp only [planL, nL]
    refine pR (v := ?_) rfl (fun W => ?_) ?_; rotate_left; (go_simp <;> with_reducible rfl); simp only [nP]
    refine pL (v := ?_) rfl (fun W => ?_) ?_; rotate_left; (go_simp <;> with_reducible rfl); simp only [nP]
    refine plan_nil ?_
    refine any_fork 0 7 (by kernel_rfl) (by kernel_rfl) rfl rfl rfl rfl (fun K hK => ?_) (fun K hK => ?_)
    · skip
      go_wp2_with fail
      refine (kinds_any _).mono ?_
      rintro r w1 ⟨m, rfl, hm, hE1, hm1⟩
      have hE : Ext w0 w1 := hE0.ext hE1
      have hk1 := look_at hm x.kind HI.out true
      have hk2 := look_at (hm.ext ((Keeps.refl NoB w1).alloc (Obj.cells #[.bool false, .bool false, .int .i64 0, .nilFunc] 81))) x.kind HI.out true
      rw [HK.out] at hk1 hk2
      unfold kindU at hk1 hk2
      replace HM := Lib.hid (HM.out.ext hE)
      refine hK _ _ ⟨ClsE.of (by assumption), ?_⟩; clear hK K; try simp only [nP]
      refine any_seg (L := #[true, true, true, false, false, false, false, false, false, false]) [] 7 (by kernel_rfl) (fun _ _ _ d _ h => by cases d <;> exact h) (by kernel_rfl) (by kernel_rfl) rfl rfl (ClsE.of (by repeat (first | assumption | exact Keeps.refl _ _ | refine Keeps.alloc ?_ _ | refine Keeps.setOne ?_ _ _ | refine Keeps.setCell ?_ _ _ (.inl (by first | rfl | exact .inl rfl | exact .inr rfl | omega)) | refine Keeps.drew ?_))) ?_; simp only [planL, nL]
      refine plan_nil ?_
      refine any_fork 3 7 (by kernel_rfl) (by kernel_rfl) rfl rfl rfl rfl (fun K hK => ?_) (fun K hK => ?_)
      · skip
        go_wp2_with fail
        refine ⟨ClsE.of (by repeat (first | assumption | exact Keeps.refl _ _ | refine Keeps.alloc ?_ _ | refine Keeps.setOne ?_ _ _ | refine Keeps.setCell ?_ _ _ (.inl (by first | rfl | exact .inl rfl | exact .inr rfl | omega)) | refine Keeps.drew ?_)), ?_⟩; try simp only [nP]
        refine any_end [(0, 4), (0, 5), (0, 6), (2, 7)] [8, 9] (by kernel_rfl) (fun _ _ _ d _ h => by cases d <;> exact h) (by kernel_rfl) (by kernel_rfl) rfl rfl (ClsE.of (by repeat (first | assumption | exact Keeps.refl _ _ | refine Keeps.alloc ?_ _ | refine Keeps.setOne ?_ _ _ | refine Keeps.setCell ?_ _ _ (.inl (by first | rfl | exact .inl rfl | exact .inr rfl | omega)) | refine Keeps.drew ?_))) ?_; simp only [planL, nL]
        refine pM _ rfl rfl ?_; simp only [nP, nE]
        iterate 2 (refine pR (v := ?_) rfl (fun W => ?_) ?_; rotate_left; (go_simp <;> with_reducible rfl); simp only [nP])
        refine plan_does rfl (fun K hK => ?_)
        go_wp2_with fail
        refine ⟨ClsE.of (by repeat (first | assumption | exact Keeps.refl _ _ | refine Keeps.alloc ?_ _ | refine Keeps.setOne ?_ _ _ | refine Keeps.setCell ?_ _ _ (.inl (by first | rfl | exact .inl rfl | exact .inr rfl | omega)) | refine Keeps.drew ?_)), ?_⟩; try simp only [nP]
        refine plan_nil ?_; simp only [tailL, List.filterMap_cons, List.filterMap_nil, nL]; change wpList _ _ _ (_ :: _ :: []) _ _
        clear hk1 hk2 hm
        clear fM fMHB fLHB
        refine nxt HM fun w2 M => ?_
        clear HM; have HM := M; clear M
        cases pl
        · skip
          by_cases h1 : x.index < least
          · skip
            have fM := HM.out.fa
            have fMHB := (HB.out.ext HM.out.extTo).reads
            have fLHB := (HB.out.ext HM.out.extTo).lt
            go_wp2_with fail
            all_goals clear fM fMHB fLHB
            go_ret
            refine ⟨?_, ?_⟩
            rotate_left
            · apply Mem.extTo
              exact HM.out.to
            unfold mayE
            rw [HN.out]
            dsimp only
            rw [if_pos (.inl h1)]
            rfl
          cases en
          · skip
            have g3 : ¬ least > x.index := by omega
            by_cases h3 : x.who < 0
            · skip
              have fM := HM.out.fa
              have fMHB := (HB.out.ext HM.out.extTo).reads
              have fLHB := (HB.out.ext HM.out.extTo).lt
              go_wp2_with fail
              all_goals clear fM fMHB fLHB
              go_ret
              refine ⟨?_, ?_⟩
              rotate_left
              · apply Mem.extTo
                exact HM.out.to
              unfold mayE
              rw [HN.out]
              dsimp only
              rw [if_neg (fun h => by rcases h with h | ⟨h, -⟩; omega; cases h), if_pos (.inl h3)]
              rfl
            by_cases h4 : J.m ≤ x.who
            · have g5 : 0 ≤ x.who := by omega
              have fM := HM.out.fa
              have fMHB := (HB.out.ext HM.out.extTo).reads
              have fLHB := (HB.out.ext HM.out.extTo).lt
              go_wp2_with fail
              all_goals clear fM fMHB fLHB
              go_ret
              refine ⟨?_, ?_⟩
              rotate_left
              · apply Mem.extTo
                exact HM.out.to
              unfold mayE
              rw [HN.out]
              dsimp only
              rw [if_neg (fun h => by rcases h with h | ⟨h, -⟩; omega; cases h), if_pos (.inr h4)]
              rfl
            · have g5 : 0 ≤ x.who := by omega
              have fM := HM.out.fa
              have fMHB := (HB.out.ext HM.out.extTo).reads
              have fLHB := (HB.out.ext HM.out.extTo).lt
              go_wp2_with fail
              all_goals clear fM fMHB fLHB
              go_ret
              refine ⟨?_, ?_⟩
              rotate_left
              · apply Mem.extTo
                exact HM.out.to
              unfold mayE
              rw [HN.out]
              dsimp only
              rw [if_neg (fun h => by rcases h with h | ⟨h, -⟩; omega; cases h), if_neg (fun h => by rcases h with h | h <;> ((try simp only [if_true, if_false, Bool.false_eq_true] at h); omega))]
              rfl
          · skip
            by_cases h2 : x.e.kind = 1
            · skip
              have fM := HM.out.fa
              have fMHB := (HB.out.ext HM.out.extTo).reads
              have fLHB := (HB.out.ext HM.out.extTo).lt
              go_wp2_with fail
              all_goals clear fM fMHB fLHB
              go_ret
              refine ⟨?_, ?_⟩
              rotate_left
              · apply Mem.extTo
                exact HM.out.to
              unfold mayE
              rw [HN.out]
              dsimp only
              rw [if_pos (.inr ⟨rfl, .inl h2⟩)]
              rfl
            · skip
              have H1 := Lib.hid h1
              have H2 := Lib.hid h2
              have fM := HM.out.fa
              have fMHB := (HB.out.ext HM.out.extTo).reads
              have fLHB := (HB.out.ext HM.out.extTo).lt
              go_wp2_with fail
              all_goals clear fM fMHB fLHB
              refine nxt HM fun w3 M => ?_
              clear HM; have HM := M; clear M
              have hE3 := HM.out.extTo
              refine (right_any w3 x.e HIE.out (fun h w1 h1 => HC.out h w1 (hE3.ext h1))).mono ?_
              rintro r w4 ⟨rfl, hE4⟩
              replace HM := Lib.hid (HM.out.ext hE4)
              clear hE4 hE3 h1 h2
              have h1 : ¬ x.index < least := by have := H1.out; omega
              have h2 := H2.out
              cases hb : enB x.e
              · skip
                have fM := HM.out.fa
                have fMHB := (HB.out.ext HM.out.extTo).reads
                have fLHB := (HB.out.ext HM.out.extTo).lt
                go_wp2_with fail
                all_goals clear fM fMHB fLHB
                go_ret
                refine ⟨?_, ?_⟩
                rotate_left
                · apply Mem.extTo
                  exact HM.out.to
                unfold mayE
                rw [HN.out]
                dsimp only
                rw [if_pos (.inr ⟨rfl, .inr hb⟩)]
                rfl
              · skip
                have HBB := Lib.hid hb
                clear hb
                have g3 : ¬ least > x.index := by omega
                by_cases h3 : x.who < 0
                · skip
                  have fM := HM.out.fa
                  have fMHB := (HB.out.ext HM.out.extTo).reads
                  have fLHB := (HB.out.ext HM.out.extTo).lt
                  go_wp2_with fail
                  all_goals clear fM fMHB fLHB
                  go_ret
                  refine ⟨?_, ?_⟩
                  rotate_left
                  · apply Mem.extTo
                    exact HM.out.to
                  unfold mayE
                  rw [HN.out]
                  dsimp only
                  rw [if_neg (fun h => by rcases h with h | ⟨-, h | h⟩; omega; exact H2.out h; rw [HBB.out] at h; cases h), if_pos (.inl h3)]
                  rfl
                by_cases h4 : J.m ≤ x.who
                · have g5 : 0 ≤ x.who := by omega
                  have fM := HM.out.fa
                  have fMHB := (HB.out.ext HM.out.extTo).reads
                  have fLHB := (HB.out.ext HM.out.extTo).lt
                  go_wp2_with fail
                  all_goals clear fM fMHB fLHB
                  go_ret
                  refine ⟨?_, ?_⟩
                  rotate_left
                  · apply Mem.extTo
                    exact HM.out.to
                  unfold mayE
                  rw [HN.out]
                  dsimp only
                  rw [if_neg (fun h => by rcases h with h | ⟨-, h | h⟩; omega; exact H2.out h; rw [HBB.out] at h; cases h), if_pos (.inr h4)]
                  rfl
                · have g5 : 0 ≤ x.who := by omega
                  have fM := HM.out.fa
                  have fMHB := (HB.out.ext HM.out.extTo).reads
                  have fLHB := (HB.out.ext HM.out.extTo).lt
                  go_wp2_with fail
                  all_goals clear fM fMHB fLHB
                  go_ret
                  refine ⟨?_, ?_⟩
                  rotate_left
                  · apply Mem.extTo
                    exact HM.out.to
                  unfold mayE
                  rw [HN.out]
                  dsimp only
                  rw [if_neg (fun h => by rcases h with h | ⟨-, h | h⟩; omega; exact H2.out h; rw [HBB.out] at h; cases h), if_neg (fun h => by rcases h with h | h <;> ((try simp only [if_true, if_false, Bool.false_eq_true] at h); omega))]
                  rfl
        · skip
          by_cases h1 : x.index < least
          · skip
            have fM := HM.out.fa
            have fMHB := (HB.out.ext HM.out.extTo).reads
            have fLHB := (HB.out.ext HM.out.extTo).lt
            go_wp2_with fail
            all_goals clear fM fMHB fLHB
            go_ret
            refine ⟨?_, ?_⟩
            rotate_left
            · apply Mem.extTo
              exact HM.out.to
            unfold mayE
            rw [HN.out]
            dsimp only
            rw [if_pos (.inl h1)]
            rfl
          cases en
          · skip
            have g3 : ¬ least > x.index := by omega
            by_cases h3 : x.who < 0
            · skip
              have fM := HM.out.fa
              have fMHB := (HB.out.ext HM.out.extTo).reads
              have fLHB := (HB.out.ext HM.out.extTo).lt
              go_wp2_with fail
              all_goals clear fM fMHB fLHB
              go_ret
              refine ⟨?_, ?_⟩
              rotate_left
              · apply Mem.extTo
                exact HM.out.to
              unfold mayE
              rw [HN.out]
              dsimp only
              rw [if_neg (fun h => by rcases h with h | ⟨h, -⟩; omega; cases h), if_pos (.inl h3)]
              rfl
            by_cases h4 : J.n ≤ x.who
            · have g5 : 0 ≤ x.who := by omega
              have fM := HM.out.fa
              have fMHB := (HB.out.ext HM.out.extTo).reads
              have fLHB := (HB.out.ext HM.out.extTo).lt
              go_wp2_with fail
              all_goals clear fM fMHB fLHB
              go_ret
              refine ⟨?_, ?_⟩
              rotate_left
              · apply Mem.extTo
                exact HM.out.to
              unfold mayE
              rw [HN.out]
              dsimp only
              rw [if_neg (fun h => by rcases h with h | ⟨h, -⟩; omega; cases h), if_pos (.inr h4)]
              rfl
            · have g5 : 0 ≤ x.who := by omega
              have fM := HM.out.fa
              have fMHB := (HB.out.ext HM.out.extTo).reads
              have fLHB := (HB.out.ext HM.out.extTo).lt
              go_wp2_with fail
              all_goals clear fM fMHB fLHB
              go_ret
              refine ⟨?_, ?_⟩
              rotate_left
              · apply Mem.extTo
                exact HM.out.to
              unfold mayE
              rw [HN.out]
              dsimp only
              rw [if_neg (fun h => by rcases h with h | ⟨h, -⟩; omega; cases h), if_neg (fun h => by rcases h with h | h <;> ((try simp only [if_true, if_false, Bool.false_eq_true] at h); omega))]
              rfl
          · skip
            by_cases h2 : x.e.kind = 1
            · skip
              have fM := HM.out.fa
              have fMHB := (HB.out.ext HM.out.extTo).reads
              have fLHB := (HB.out.ext HM.out.extTo).lt
              go_wp2_with fail
              all_goals clear fM fMHB fLHB
              go_ret
              refine ⟨?_, ?_⟩
              rotate_left
              · apply Mem.extTo
                exact HM.out.to
              unfold mayE
              rw [HN.out]
              dsimp only
              rw [if_pos (.inr ⟨rfl, .inl h2⟩)]
              rfl
            · skip
              have H1 := Lib.hid h1
              have H2 := Lib.hid h2
              have fM := HM.out.fa
              have fMHB := (HB.out.ext HM.out.extTo).reads
              have fLHB := (HB.out.ext HM.out.extTo).lt
              go_wp2_with fail
              all_goals clear fM fMHB fLHB
              refine nxt HM fun w3 M => ?_
              clear HM; have HM := M; clear M
              have hE3 := HM.out.extTo
              refine (right_any w3 x.e HIE.out (fun h w1 h1 => HC.out h w1 (hE3.ext h1))).mono ?_
              rintro r w4 ⟨rfl, hE4⟩
              replace HM := Lib.hid (HM.out.ext hE4)
              clear hE4 hE3 h1 h2
              have h1 : ¬ x.index < least := by have := H1.out; omega
              have h2 := H2.out
              cases hb : enB x.e
              · skip
                have fM := HM.out.fa
                have fMHB := (HB.out.ext HM.out.extTo).reads
                have fLHB := (HB.out.ext HM.out.extTo).lt
                go_wp2_with fail
                all_goals clear fM fMHB fLHB
                go_ret
                refine ⟨?_, ?_⟩
                rotate_left
                · apply Mem.extTo
                  exact HM.out.to
                unfold mayE
                rw [HN.out]
                dsimp only
                rw [if_pos (.inr ⟨rfl, .inr hb⟩)]
                rfl
              · skip
                have HBB := Lib.hid hb
                clear hb
                have g3 : ¬ least > x.index := by omega
                by_cases h3 : x.who < 0
                · skip
                  have fM := HM.out.fa
                  have fMHB := (HB.out.ext HM.out.extTo).reads
                  have fLHB := (HB.out.ext HM.out.extTo).lt
                  go_wp2_with fail
                  all_goals clear fM fMHB fLHB
                  go_ret
                  refine ⟨?_, ?_⟩
                  rotate_left
                  · apply Mem.extTo
                    exact HM.out.to
                  unfold mayE
                  rw [HN.out]
                  dsimp only
                  rw [if_neg (fun h => by rcases h with h | ⟨-, h | h⟩; omega; exact H2.out h; rw [HBB.out] at h; cases h), if_pos (.inl h3)]
                  rfl
                by_cases h4 : J.n ≤ x.who
                · have g5 : 0 ≤ x.who := by omega
                  have fM := HM.out.fa
                  have fMHB := (HB.out.ext HM.out.extTo).reads
                  have fLHB := (HB.out.ext HM.out.extTo).lt
                  go_wp2_with fail
                  all_goals clear fM fMHB fLHB
                  go_ret
                  refine ⟨?_, ?_⟩
                  rotate_left
                  · apply Mem.extTo
                    exact HM.out.to
                  unfold mayE
                  rw [HN.out]
                  dsimp only
                  rw [if_neg (fun h => by rcases h with h | ⟨-, h | h⟩; omega; exact H2.out h; rw [HBB.out] at h; cases h), if_pos (.inr h4)]
                  rfl
                · have g5 : 0 ≤ x.who := by omega
                  have fM := HM.out.fa
                  have fMHB := (HB.out.ext HM.out.extTo).reads
                  have fLHB := (HB.out.ext HM.out.extTo).lt
                  go_wp2_with fail
                  all_goals clear fM fMHB fLHB
                  go_ret
                  refine ⟨?_, ?_⟩
                  rotate_left
                  · apply Mem.extTo
                    exact HM.out.to
                  unfold mayE
                  rw [HN.out]
                  dsimp only
                  rw [if_neg (fun h => by rcases h with h | ⟨-, h | h⟩; omega; exact H2.out h; rw [HBB.out] at h; cases h), if_neg (fun h => by rcases h with h | h <;> ((try simp only [if_true, if_false, Bool.false_eq_true] at h); omega))]
                  rfl
      · skip
        go_wp2_with fail
        refine ⟨ClsE.of (by repeat (first | assumption | exact Keeps.refl _ _ | refine Keeps.alloc ?_ _ | refine Keeps.setOne ?_ _ _ | refine Keeps.setCell ?_ _ _ (.inl (by first | rfl | exact .inl rfl | exact .inr rfl | omega)) | refine Keeps.drew ?_)), ?_⟩; try simp only [nP]
        refine any_end [(2, 3), (0, 4), (0, 5), (0, 6)] [8, 9] (by kernel_rfl) (fun _ _ _ d _ h => by cases d <;> exact h) (by kernel_rfl) (by kernel_rfl) rfl rfl (ClsE.of (by repeat (first | assumption | exact Keeps.refl _ _ | refine Keeps.alloc ?_ _ | refine Keeps.setOne ?_ _ _ | refine Keeps.setCell ?_ _ _ (.inl (by first | rfl | exact .inl rfl | exact .inr rfl | omega)) | refine Keeps.drew ?_))) ?_; simp only [planL, nL]
        refine plan_does rfl (fun K hK => ?_)
        go_wp2_with fail
        refine ⟨ClsE.of (by repeat (first | assumption | exact Keeps.refl _ _ | refine Keeps.alloc ?_ _ | refine Keeps.setOne ?_ _ _ | refine Keeps.setCell ?_ _ _ (.inl (by first | rfl | exact .inl rfl | exact .inr rfl | omega)) | refine Keeps.drew ?_)), ?_⟩; try simp only [nP]
        refine pM _ rfl rfl ?_; simp only [nP, nE]
        iterate 2 (refine pR (v := ?_) rfl (fun W => ?_) ?_; rotate_left; (go_simp <;> with_reducible rfl); simp only [nP])
        refine plan_nil ?_; simp only [tailL, List.filterMap_cons, List.filterMap_nil, nL]; change wpList _ _ _ (_ :: _ :: []) _ _
        clear hk1 hk2 hm
        clear fM fMHB fLHB
        refine nxt HM fun w2 M => ?_
        clear HM; have HM := M; clear M
        cases pl
        · skip
          by_cases h1 : x.index < least
          · skip
            have fM := HM.out.fa
            have fMHB := (HB.out.ext HM.out.extTo).reads
            have fLHB := (HB.out.ext HM.out.extTo).lt
            go_wp2_with fail
            all_goals clear fM fMHB fLHB
            go_ret
            refine ⟨?_, ?_⟩
            rotate_left
            · apply Mem.extTo
              exact HM.out.to
            unfold mayE
            rw [HN.out]
            dsimp only
            rw [if_pos (.inl h1)]
            rfl
          cases en
          · skip
            have g3 : ¬ least > x.index := by omega
            by_cases h3 : x.who < 0
            · skip
              have fM := HM.out.fa
              have fMHB := (HB.out.ext HM.out.extTo).reads
              have fLHB := (HB.out.ext HM.out.extTo).lt
              go_wp2_with fail
              all_goals clear fM fMHB fLHB
              go_ret
              refine ⟨?_, ?_⟩
              rotate_left
              · apply Mem.extTo
                exact HM.out.to
              unfold mayE
              rw [HN.out]
              dsimp only
              rw [if_neg (fun h => by rcases h with h | ⟨h, -⟩; omega; cases h), if_pos (.inl h3)]
              rfl
            by_cases h4 : J.m ≤ x.who
            · have g5 : 0 ≤ x.who := by omega
              have fM := HM.out.fa
              have fMHB := (HB.out.ext HM.out.extTo).reads
              have fLHB := (HB.out.ext HM.out.extTo).lt
              go_wp2_with fail
              all_goals clear fM fMHB fLHB
              go_ret
              refine ⟨?_, ?_⟩
              rotate_left
              · apply Mem.extTo
                exact HM.out.to
              unfold mayE
              rw [HN.out]
              dsimp only
              rw [if_neg (fun h => by rcases h with h | ⟨h, -⟩; omega; cases h), if_pos (.inr h4)]
              rfl
            · have g5 : 0 ≤ x.who := by omega
              have fM := HM.out.fa
              have fMHB := (HB.out.ext HM.out.extTo).reads
              have fLHB := (HB.out.ext HM.out.extTo).lt
              go_wp2_with fail
              all_goals clear fM fMHB fLHB
              go_ret
              refine ⟨?_, ?_⟩
              rotate_left
              · apply Mem.extTo
                exact HM.out.to
              unfold mayE
              rw [HN.out]
              dsimp only
              rw [if_neg (fun h => by rcases h with h | ⟨h, -⟩; omega; cases h), if_neg (fun h => by rcases h with h | h <;> ((try simp only [if_true, if_false, Bool.false_eq_true] at h); omega))]
              rfl
          · skip
            by_cases h2 : x.e.kind = 1
            · skip
              have fM := HM.out.fa
              have fMHB := (HB.out.ext HM.out.extTo).reads
              have fLHB := (HB.out.ext HM.out.extTo).lt
              go_wp2_with fail
              all_goals clear fM fMHB fLHB
              go_ret
              refine ⟨?_, ?_⟩
              rotate_left
              · apply Mem.extTo
                exact HM.out.to
              unfold mayE
              rw [HN.out]
              dsimp only
              rw [if_pos (.inr ⟨rfl, .inl h2⟩)]
              rfl
            · skip
              have H1 := Lib.hid h1
              have H2 := Lib.hid h2
              have fM := HM.out.fa
              have fMHB := (HB.out.ext HM.out.extTo).reads
              have fLHB := (HB.out.ext HM.out.extTo).lt
              go_wp2_with fail
              all_goals clear fM fMHB fLHB
              refine nxt HM fun w3 M => ?_
              clear HM; have HM := M; clear M
              have hE3 := HM.out.extTo
              refine (right_any w3 x.e HIE.out (fun h w1 h1 => HC.out h w1 (hE3.ext h1))).mono ?_
              rintro r w4 ⟨rfl, hE4⟩
              replace HM := Lib.hid (HM.out.ext hE4)
              clear hE4 hE3 h1 h2
              have h1 : ¬ x.index < least := by have := H1.out; omega
              have h2 := H2.out
              cases hb : enB x.e
              · skip
                have fM := HM.out.fa
                have fMHB := (HB.out.ext HM.out.extTo).reads
                have fLHB := (HB.out.ext HM.out.extTo).lt
                go_wp2_with fail
                all_goals clear fM fMHB fLHB
                go_ret
                refine ⟨?_, ?_⟩
                rotate_left
                · apply Mem.extTo
                  exact HM.out.to
                unfold mayE
                rw [HN.out]
                dsimp only
                rw [if_pos (.inr ⟨rfl, .inr hb⟩)]
                rfl
              · skip
                have HBB := Lib.hid hb
                clear hb
                have g3 : ¬ least > x.index := by omega
                by_cases h3 : x.who < 0
                · skip
                  have fM := HM.out.fa
                  have fMHB := (HB.out.ext HM.out.extTo).reads
                  have fLHB := (HB.out.ext HM.out.extTo).lt
                  go_wp2_with fail
                  all_goals clear fM fMHB fLHB
                  go_ret
                  refine ⟨?_, ?_⟩
                  rotate_left
                  · apply Mem.extTo
                    exact HM.out.to
                  unfold mayE
                  rw [HN.out]
                  dsimp only
                  rw [if_neg (fun h => by rcases h with h | ⟨-, h | h⟩; omega; exact H2.out h; rw [HBB.out] at h; cases h), if_pos (.inl h3)]
                  rfl
                by_cases h4 : J.m ≤ x.who
                · have g5 : 0 ≤ x.who := by omega
                  have fM := HM.out.fa
                  have fMHB := (HB.out.ext HM.out.extTo).reads
                  have fLHB := (HB.out.ext HM.out.extTo).lt
                  go_wp2_with fail
                  all_goals clear fM fMHB fLHB
                  go_ret
                  refine ⟨?_, ?_⟩
                  rotate_left
                  · apply Mem.extTo
                    exact HM.out.to
                  unfold mayE
                  rw [HN.out]
                  dsimp only
                  rw [if_neg (fun h => by rcases h with h | ⟨-, h | h⟩; omega; exact H2.out h; rw [HBB.out] at h; cases h), if_pos (.inr h4)]
                  rfl
                · have g5 : 0 ≤ x.who := by omega
                  have fM := HM.out.fa
                  have fMHB := (HB.out.ext HM.out.extTo).reads
                  have fLHB := (HB.out.ext HM.out.extTo).lt
                  go_wp2_with fail
                  all_goals clear fM fMHB fLHB
                  go_ret
                  refine ⟨?_, ?_⟩
                  rotate_left
                  · apply Mem.extTo
                    exact HM.out.to
                  unfold mayE
                  rw [HN.out]
                  dsimp only
                  rw [if_neg (fun h => by rcases h with h | ⟨-, h | h⟩; omega; exact H2.out h; rw [HBB.out] at h; cases h), if_neg (fun h => by rcases h with h | h <;> ((try simp only [if_true, if_false, Bool.false_eq_true] at h); omega))]
                  rfl
        · skip
          by_cases h1 : x.index < least
          · skip
            have fM := HM.out.fa
            have fMHB := (HB.out.ext HM.out.extTo).reads
            have fLHB := (HB.out.ext HM.out.extTo).lt
            go_wp2_with fail
            all_goals clear fM fMHB fLHB
            go_ret
            refine ⟨?_, ?_⟩
            rotate_left
            · apply Mem.extTo
              exact HM.out.to
            unfold mayE
            rw [HN.out]
            dsimp only
            rw [if_pos (.inl h1)]
            rfl
          cases en
          · skip
            have g3 : ¬ least > x.index := by omega
            by_cases h3 : x.who < 0
            · skip
              have fM := HM.out.fa
              have fMHB := (HB.out.ext HM.out.extTo).reads
              have fLHB := (HB.out.ext HM.out.extTo).lt
              go_wp2_with fail
              all_goals clear fM fMHB fLHB
              go_ret
              refine ⟨?_, ?_⟩
              rotate_left
              · apply Mem.extTo
                exact HM.out.to
              unfold mayE
              rw [HN.out]
              dsimp only
              rw [if_neg (fun h => by rcases h with h | ⟨h, -⟩; omega; cases h), if_pos (.inl h3)]
              rfl
            by_cases h4 : J.n ≤ x.who
            · have g5 : 0 ≤ x.who := by omega
              have fM := HM.out.fa
              have fMHB := (HB.out.ext HM.out.extTo).reads
              have fLHB := (HB.out.ext HM.out.extTo).lt
              go_wp2_with fail
              all_goals clear fM fMHB fLHB
              go_ret
              refine ⟨?_, ?_⟩
              rotate_left
              · apply Mem.extTo
                exact HM.out.to
              unfold mayE
              rw [HN.out]
              dsimp only
              rw [if_neg (fun h => by rcases h with h | ⟨h, -⟩; omega; cases h), if_pos (.inr h4)]
              rfl
            · have g5 : 0 ≤ x.who := by omega
              have fM := HM.out.fa
              have fMHB := (HB.out.ext HM.out.extTo).reads
              have fLHB := (HB.out.ext HM.out.extTo).lt
              go_wp2_with fail
              all_goals clear fM fMHB fLHB
              go_ret
              refine ⟨?_, ?_⟩
              rotate_left
              · apply Mem.extTo
                exact HM.out.to
              unfold mayE
              rw [HN.out]
              dsimp only
              rw [if_neg (fun h => by rcases h with h | ⟨h, -⟩; omega; cases h), if_neg (fun h => by rcases h with h | h <;> ((try simp only [if_true, if_false, Bool.false_eq_true] at h); omega))]
              rfl
          · skip
            by_cases h2 : x.e.kind = 1
            · skip
              have fM := HM.out.fa
              have fMHB := (HB.out.ext HM.out.extTo).reads
              have fLHB := (HB.out.ext HM.out.extTo).lt
              go_wp2_with fail
              all_goals clear fM fMHB fLHB
              go_ret
              refine ⟨?_, ?_⟩
              rotate_left
              · apply Mem.extTo
                exact HM.out.to
              unfold mayE
              rw [HN.out]
              dsimp only
              rw [if_pos (.inr ⟨rfl, .inl h2⟩)]
              rfl
            · skip
              have H1 := Lib.hid h1
              have H2 := Lib.hid h2
              have fM := HM.out.fa
              have fMHB := (HB.out.ext HM.out.extTo).reads
              have fLHB := (HB.out.ext HM.out.extTo).lt
              go_wp2_with fail
              all_goals clear fM fMHB fLHB
              refine nxt HM fun w3 M => ?_
              clear HM; have HM := M; clear M
              have hE3 := HM.out.extTo
              refine (right_any w3 x.e HIE.out (fun h w1 h1 => HC.out h w1 (hE3.ext h1))).mono ?_
              rintro r w4 ⟨rfl, hE4⟩
              replace HM := Lib.hid (HM.out.ext hE4)
              clear hE4 hE3 h1 h2
              have h1 : ¬ x.index < least := by have := H1.out; omega
              have h2 := H2.out
              cases hb : enB x.e
              · skip
                have fM := HM.out.fa
                have fMHB := (HB.out.ext HM.out.extTo).reads
                have fLHB := (HB.out.ext HM.out.extTo).lt
                go_wp2_with fail
                all_goals clear fM fMHB fLHB
                go_ret
                refine ⟨?_, ?_⟩
                rotate_left
                · apply Mem.extTo
                  exact HM.out.to
                unfold mayE
                rw [HN.out]
                dsimp only
                rw [if_pos (.inr ⟨rfl, .inr hb⟩)]
                rfl
              · skip
                have HBB := Lib.hid hb
                clear hb
                have g3 : ¬ least > x.index := by omega
                by_cases h3 : x.who < 0
                · skip
                  have fM := HM.out.fa
                  have fMHB := (HB.out.ext HM.out.extTo).reads
                  have fLHB := (HB.out.ext HM.out.extTo).lt
                  go_wp2_with fail
                  all_goals clear fM fMHB fLHB
                  go_ret
                  refine ⟨?_, ?_⟩
                  rotate_left
                  · apply Mem.extTo
                    exact HM.out.to
                  unfold mayE
                  rw [HN.out]
                  dsimp only
                  rw [if_neg (fun h => by rcases h with h | ⟨-, h | h⟩; omega; exact H2.out h; rw [HBB.out] at h; cases h), if_pos (.inl h3)]
                  rfl
                by_cases h4 : J.n ≤ x.who
                · have g5 : 0 ≤ x.who := by omega
                  have fM := HM.out.fa
                  have fMHB := (HB.out.ext HM.out.extTo).reads
                  have fLHB := (HB.out.ext HM.out.extTo).lt
                  go_wp2_with fail
                  all_goals clear fM fMHB fLHB
                  go_ret
                  refine ⟨?_, ?_⟩
                  rotate_left
                  · apply Mem.extTo
                    exact HM.out.to
                  unfold mayE
                  rw [HN.out]
                  dsimp only
                  rw [if_neg (fun h => by rcases h with h | ⟨-, h | h⟩; omega; exact H2.out h; rw [HBB.out] at h; cases h), if_pos (.inr h4)]
                  rfl
                · have g5 : 0 ≤ x.who := by omega
                  have fM := HM.out.fa
                  have fMHB := (HB.out.ext HM.out.extTo).reads
                  have fLHB := (HB.out.ext HM.out.extTo).lt
                  go_wp2_with fail
                  all_goals clear fM fMHB fLHB
                  go_ret
                  refine ⟨?_, ?_⟩
                  rotate_left
                  · apply Mem.extTo
                    exact HM.out.to
                  unfold mayE
                  rw [HN.out]
                  dsimp only
                  rw [if_neg (fun h => by rcases h with h | ⟨-, h | h⟩; omega; exact H2.out h; rw [HBB.out] at h; cases h), if_neg (fun h => by rcases h with h | h <;> ((try simp only [if_true, if_false, Bool.false_eq_true] at h); omega))]
                  rfl
    · skip
      go_wp2_with fail
      refine ⟨ClsE.of (by repeat (first | assumption | exact Keeps.refl _ _ | refine Keeps.alloc ?_ _ | refine Keeps.setOne ?_ _ _ | refine Keeps.setCell ?_ _ _ (.inl (by first | rfl | exact .inl rfl | exact .inr rfl | omega)) | refine Keeps.drew ?_)), ?_⟩; try simp only [nP]
      refine any_end [(2, 0), (2, 3), (0, 4), (0, 5), (0, 6)] [8, 9] (by kernel_rfl) (fun _ _ _ d _ h => by cases d <;> exact h) (by kernel_rfl) (by kernel_rfl) rfl rfl (ClsE.of (by repeat (first | assumption | exact Keeps.refl _ _ | refine Keeps.alloc ?_ _ | refine Keeps.setOne ?_ _ _ | refine Keeps.setCell ?_ _ _ (.inl (by first | rfl | exact .inl rfl | exact .inr rfl | omega)) | refine Keeps.drew ?_))) ?_; simp only [planL, nL]
      refine plan_does rfl (fun K hK => ?_)
      go_wp2_with fail
      refine (kinds_any _).mono ?_
      rintro r w1 ⟨m, rfl, hm, hE1, hm1⟩
      have hE : Ext (w0.alloc (Obj.cells #[.bool false, .bool false, .int .i64 0, .nilFunc] 81)) w1 := (Ext.drew0 _).ext hE1
      have hEE : Ext w0 w1 := ((Keeps.refl NoB w0).alloc _).ext hE
      have hk1 := look_at hm x.kind HI.out true
      rw [HK.out] at hk1
      unfold kindU at hk1
      replace HM := Lib.hid ((Mem.alloc (cs := [.bool false, .bool false, .int .i64 0, .nilFunc]) (t := 81) HM.out rfl).ext hE)
      refine hK _ _ ⟨ClsE.of (by assumption), ?_⟩; clear hK K; try simp only [nP]
      refine plan_does rfl (fun K hK => ?_)
      go_wp2_with fail
      refine ⟨ClsE.of (by repeat (first | assumption | exact Keeps.refl _ _ | refine Keeps.alloc ?_ _ | refine Keeps.setOne ?_ _ _ | refine Keeps.setCell ?_ _ _ (.inl (by first | rfl | exact .inl rfl | exact .inr rfl | omega)) | refine Keeps.drew ?_)), ?_⟩; try simp only [nP]
      refine pM _ rfl rfl ?_; simp only [nP, nE]
      iterate 2 (refine pR (v := ?_) rfl (fun W => ?_) ?_; rotate_left; (go_simp <;> with_reducible rfl); simp only [nP])
      refine plan_nil ?_; simp only [tailL, List.filterMap_cons, List.filterMap_nil, nL]; change wpList _ _ _ (_ :: _ :: []) _ _
      clear hk1 hm
      clear fM fMHB fLHB
      refine nxt HM fun w2 M => ?_
      clear HM; have HM := M; clear M
      cases pl
      · skip
        by_cases h1 : x.index < least
        · skip
          have fM := HM.out.fa
          have fMHB := (HB.out.ext HM.out.extTo).reads
          have fLHB := (HB.out.ext HM.out.extTo).lt
          go_wp2_with fail
          all_goals clear fM fMHB fLHB
          go_ret
          refine ⟨?_, ?_⟩
          rotate_left
          · apply Mem.extTo
            exact HM.out.to
          unfold mayE
          rw [HN.out]
          dsimp only
          rw [if_pos (.inl h1)]
          rfl
        cases en
        · skip
          have g3 : ¬ least > x.index := by omega
          by_cases h3 : x.who < 0
          · skip
            have fM := HM.out.fa
            have fMHB := (HB.out.ext HM.out.extTo).reads
            have fLHB := (HB.out.ext HM.out.extTo).lt
            go_wp2_with fail
            all_goals clear fM fMHB fLHB
            go_ret
            refine ⟨?_, ?_⟩
            rotate_left
            · apply Mem.extTo
              exact HM.out.to
            unfold mayE
            rw [HN.out]
            dsimp only
            rw [if_neg (fun h => by rcases h with h | ⟨h, -⟩; omega; cases h), if_pos (.inl h3)]
            rfl
          by_cases h4 : J.m ≤ x.who
          · have g5 : 0 ≤ x.who := by omega
            have fM := HM.out.fa
            have fMHB := (HB.out.ext HM.out.extTo).reads
            have fLHB := (HB.out.ext HM.out.extTo).lt
            go_wp2_with fail
            all_goals clear fM fMHB fLHB
            go_ret
            refine ⟨?_, ?_⟩
            rotate_left
            · apply Mem.extTo
              exact HM.out.to
            unfold mayE
            rw [HN.out]
            dsimp only
            rw [if_neg (fun h => by rcases h with h | ⟨h, -⟩; omega; cases h), if_pos (.inr h4)]
            rfl
          · have g5 : 0 ≤ x.who := by omega
            have fM := HM.out.fa
            have fMHB := (HB.out.ext HM.out.extTo).reads
            have fLHB := (HB.out.ext HM.out.extTo).lt
            go_wp2_with fail
            all_goals clear fM fMHB fLHB
            go_ret
            refine ⟨?_, ?_⟩
            rotate_left
            · apply Mem.extTo
              exact HM.out.to
            unfold mayE
            rw [HN.out]
            dsimp only
            rw [if_neg (fun h => by rcases h with h | ⟨h, -⟩; omega; cases h), if_neg (fun h => by rcases h with h | h <;> ((try simp only [if_true, if_false, Bool.false_eq_true] at h); omega))]
            rfl
        · skip
          by_cases h2 : x.e.kind = 1
          · skip
            have fM := HM.out.fa
            have fMHB := (HB.out.ext HM.out.extTo).reads
            have fLHB := (HB.out.ext HM.out.extTo).lt
            go_wp2_with fail
            all_goals clear fM fMHB fLHB
            go_ret
            refine ⟨?_, ?_⟩
            rotate_left
            · apply Mem.extTo
              exact HM.out.to
            unfold mayE
            rw [HN.out]
            dsimp only
            rw [if_pos (.inr ⟨rfl, .inl h2⟩)]
            rfl
          · skip
            have H1 := Lib.hid h1
            have H2 := Lib.hid h2
            have fM := HM.out.fa
            have fMHB := (HB.out.ext HM.out.extTo).reads
            have fLHB := (HB.out.ext HM.out.extTo).lt
            go_wp2_with fail
            all_goals clear fM fMHB fLHB
            refine nxt HM fun w3 M => ?_
            clear HM; have HM := M; clear M
            have hE3 := HM.out.extTo
            refine (right_any w3 x.e HIE.out (fun h w1 h1 => HC.out h w1 (hE3.ext h1))).mono ?_
            rintro r w4 ⟨rfl, hE4⟩
            replace HM := Lib.hid (HM.out.ext hE4)
            clear hE4 hE3 h1 h2
            have h1 : ¬ x.index < least := by have := H1.out; omega
            have h2 := H2.out
            cases hb : enB x.e
            · skip
              have fM := HM.out.fa
              have fMHB := (HB.out.ext HM.out.extTo).reads
              have fLHB := (HB.out.ext HM.out.extTo).lt
              go_wp2_with fail
              all_goals clear fM fMHB fLHB
              go_ret
              refine ⟨?_, ?_⟩
              rotate_left
              · apply Mem.extTo
                exact HM.out.to
              unfold mayE
              rw [HN.out]
              dsimp only
              rw [if_pos (.inr ⟨rfl, .inr hb⟩)]
              rfl
            · skip
              have HBB := Lib.hid hb
              clear hb
              have g3 : ¬ least > x.index := by omega
              by_cases h3 : x.who < 0
              · skip
                have fM := HM.out.fa
                have fMHB := (HB.out.ext HM.out.extTo).reads
                have fLHB := (HB.out.ext HM.out.extTo).lt
                go_wp2_with fail
                all_goals clear fM fMHB fLHB
                go_ret
                refine ⟨?_, ?_⟩
                rotate_left
                · apply Mem.extTo
                  exact HM.out.to
                unfold mayE
                rw [HN.out]
                dsimp only
                rw [if_neg (fun h => by rcases h with h | ⟨-, h | h⟩; omega; exact H2.out h; rw [HBB.out] at h; cases h), if_pos (.inl h3)]
                rfl
              by_cases h4 : J.m ≤ x.who
              · have g5 : 0 ≤ x.who := by omega
                have fM := HM.out.fa
                have fMHB := (HB.out.ext HM.out.extTo).reads
                have fLHB := (HB.out.ext HM.out.extTo).lt
                go_wp2_with fail
                all_goals clear fM fMHB fLHB
                go_ret
                refine ⟨?_, ?_⟩
                rotate_left
                · apply Mem.extTo
                  exact HM.out.to
                unfold mayE
                rw [HN.out]
                dsimp only
                rw [if_neg (fun h => by rcases h with h | ⟨-, h | h⟩; omega; exact H2.out h; rw [HBB.out] at h; cases h), if_pos (.inr h4)]
                rfl
              · have g5 : 0 ≤ x.who := by omega
                have fM := HM.out.fa
                have fMHB := (HB.out.ext HM.out.extTo).reads
                have fLHB := (HB.out.ext HM.out.extTo).lt
                go_wp2_with fail
                all_goals clear fM fMHB fLHB
                go_ret
                refine ⟨?_, ?_⟩
                rotate_left
                · apply Mem.extTo
                  exact HM.out.to
                unfold mayE
                rw [HN.out]
                dsimp only
                rw [if_neg (fun h => by rcases h with h | ⟨-, h | h⟩; omega; exact H2.out h; rw [HBB.out] at h; cases h), if_neg (fun h => by rcases h with h | h <;> ((try simp only [if_true, if_false, Bool.false_eq_true] at h); omega))]
                rfl
      · skip
        by_cases h1 : x.index < least
        · skip
          have fM := HM.out.fa
          have fMHB := (HB.out.ext HM.out.extTo).reads
          have fLHB := (HB.out.ext HM.out.extTo).lt
          go_wp2_with fail
          all_goals clear fM fMHB fLHB
          go_ret
          refine ⟨?_, ?_⟩
          rotate_left
          · apply Mem.extTo
            exact HM.out.to
          unfold mayE
          rw [HN.out]
          dsimp only
          rw [if_pos (.inl h1)]
          rfl
        cases en
        · skip
          have g3 : ¬ least > x.index := by omega
          by_cases h3 : x.who < 0
          · skip
            have fM := HM.out.fa
            have fMHB := (HB.out.ext HM.out.extTo).reads
            have fLHB := (HB.out.ext HM.out.extTo).lt
            go_wp2_with fail
            all_goals clear fM fMHB fLHB
            go_ret
            refine ⟨?_, ?_⟩
            rotate_left
            · apply Mem.extTo
              exact HM.out.to
            unfold mayE
            rw [HN.out]
            dsimp only
            rw [if_neg (fun h => by rcases h with h | ⟨h, -⟩; omega; cases h), if_pos (.inl h3)]
            rfl
          by_cases h4 : J.n ≤ x.who
          · have g5 : 0 ≤ x.who := by omega
            have fM := HM.out.fa
            have fMHB := (HB.out.ext HM.out.extTo).reads
            have fLHB := (HB.out.ext HM.out.extTo).lt
            go_wp2_with fail
            all_goals clear fM fMHB fLHB
            go_ret
            refine ⟨?_, ?_⟩
            rotate_left
            · apply Mem.extTo
              exact HM.out.to
            unfold mayE
            rw [HN.out]
            dsimp only
            rw [if_neg (fun h => by rcases h with h | ⟨h, -⟩; omega; cases h), if_pos (.inr h4)]
            rfl
          · have g5 : 0 ≤ x.who := by omega
            have fM := HM.out.fa
            have fMHB := (HB.out.ext HM.out.extTo).reads
            have fLHB := (HB.out.ext HM.out.extTo).lt
            go_wp2_with fail
            all_goals clear fM fMHB fLHB
            go_ret
            refine ⟨?_, ?_⟩
            rotate_left
            · apply Mem.extTo
              exact HM.out.to
            unfold mayE
            rw [HN.out]
            dsimp only
            rw [if_neg (fun h => by rcases h with h | ⟨h, -⟩; omega; cases h), if_neg (fun h => by rcases h with h | h <;> ((try simp only [if_true, if_false, Bool.false_eq_true] at h); omega))]
            rfl
        · skip
          by_cases h2 : x.e.kind = 1
          · skip
            have fM := HM.out.fa
            have fMHB := (HB.out.ext HM.out.extTo).reads
            have fLHB := (HB.out.ext HM.out.extTo).lt
            go_wp2_with fail
            all_goals clear fM fMHB fLHB
            go_ret
            refine ⟨?_, ?_⟩
            rotate_left
            · apply Mem.extTo
              exact HM.out.to
            unfold mayE
            rw [HN.out]
            dsimp only
            rw [if_pos (.inr ⟨rfl, .inl h2⟩)]
            rfl
          · skip
            have H1 := Lib.hid h1
            have H2 := Lib.hid h2
            have fM := HM.out.fa
            have fMHB := (HB.out.ext HM.out.extTo).reads
            have fLHB := (HB.out.ext HM.out.extTo).lt
            go_wp2_with fail
            all_goals clear fM fMHB fLHB
            refine nxt HM fun w3 M => ?_
            clear HM; have HM := M; clear M
            have hE3 := HM.out.extTo
            refine (right_any w3 x.e HIE.out (fun h w1 h1 => HC.out h w1 (hE3.ext h1))).mono ?_
            rintro r w4 ⟨rfl, hE4⟩
            replace HM := Lib.hid (HM.out.ext hE4)
            clear hE4 hE3 h1 h2
            have h1 : ¬ x.index < least := by have := H1.out; omega
            have h2 := H2.out
            cases hb : enB x.e
            · skip
              have fM := HM.out.fa
              have fMHB := (HB.out.ext HM.out.extTo).reads
              have fLHB := (HB.out.ext HM.out.extTo).lt
              go_wp2_with fail
              all_goals clear fM fMHB fLHB
              go_ret
              refine ⟨?_, ?_⟩
              rotate_left
              · apply Mem.extTo
                exact HM.out.to
              unfold mayE
              rw [HN.out]
              dsimp only
              rw [if_pos (.inr ⟨rfl, .inr hb⟩)]
              rfl
            · skip
              have HBB := Lib.hid hb
              clear hb
              have g3 : ¬ least > x.index := by omega
              by_cases h3 : x.who < 0
              · skip
                have fM := HM.out.fa
                have fMHB := (HB.out.ext HM.out.extTo).reads
                have fLHB := (HB.out.ext HM.out.extTo).lt
                go_wp2_with fail
                all_goals clear fM fMHB fLHB
                go_ret
                refine ⟨?_, ?_⟩
                rotate_left
                · apply Mem.extTo
                  exact HM.out.to
                unfold mayE
                rw [HN.out]
                dsimp only
                rw [if_neg (fun h => by rcases h with h | ⟨-, h | h⟩; omega; exact H2.out h; rw [HBB.out] at h; cases h), if_pos (.inl h3)]
                rfl
              by_cases h4 : J.n ≤ x.who
              · have g5 : 0 ≤ x.who := by omega
                have fM := HM.out.fa
                have fMHB := (HB.out.ext HM.out.extTo).reads
                have fLHB := (HB.out.ext HM.out.extTo).lt
                go_wp2_with fail
                all_goals clear fM fMHB fLHB
                go_ret
                refine ⟨?_, ?_⟩
                rotate_left
                · apply Mem.extTo
                  exact HM.out.to
                unfold mayE
                rw [HN.out]
                dsimp only
                rw [if_neg (fun h => by rcases h with h | ⟨-, h | h⟩; omega; exact H2.out h; rw [HBB.out] at h; cases h), if_pos (.inr h4)]
                rfl
              · have g5 : 0 ≤ x.who := by omega
                have fM := HM.out.fa
                have fMHB := (HB.out.ext HM.out.extTo).reads
                have fLHB := (HB.out.ext HM.out.extTo).lt
                go_wp2_with fail
                all_goals clear fM fMHB fLHB
                go_ret
                refine ⟨?_, ?_⟩
                rotate_left
                · apply Mem.extTo
                  exact HM.out.to
                unfold mayE
                rw [HN.out]
                dsimp only
                rw [if_neg (fun h => by rcases h with h | ⟨-, h | h⟩; omega; exact H2.out h; rw [HBB.out] at h; cases h), if_neg (fun h => by rcases h with h | h <;> ((try simp only [if_true, if_false, Bool.false_eq_true] at h); omega))]
                rfl
end Go.Proofs.YthhdgjofagdjeaaDoor
end
section
/- What See defers: it takes a panic's error, and counts it; of no panic it does nothing. Condition: the error's and the judge's places lie known whole. -/
set_option linter.unusedVariables false
set_option linter.unusedSimpArgs false
set_option maxHeartbeats 2000000
set_option maxRecDepth 10000
namespace Go.Proofs.YthhdgjofagdjeaaDoor
open Go.RowKit

theorem assert_errno (w : World) (n : Int) : (Instr.typeAssert (.iface 22 (.int .i64 n)) 20 22 false).run Tryd.prog w = .ok (.int .i64 n) w := by kernel_rfl
theorem catch_panic (w : World) (ke kj b tb mb : Nat) (J : JA) (z n : Int) (older : List PanicEntry) (he : Box w ke 22 [.int .i64 z]) (hj : Box w kj 39 [.pointer (some ⟨b, 0, none⟩)]) (hb : Box w b 76 (J.cells tb mb)) (l9 : J.told.length = 9) (l16 : J.next.length = 16) (n1 : ke ≠ kj) (n2 : ke ≠ b) :
    CallsD Tryd.prog 29 #[.pointer (some ⟨ke, 0, none⟩), .pointer (some ⟨kj, 0, none⟩)] (.panicking ({ v := .iface 22 (.int .i64 n), recovered := false } :: older)) w fun e u' w' =>
      e = .returned (.tuple #[]) ∧ u' = .panicking ({ v := .iface 22 (.int .i64 n), recovered := true } :: older) ∧ w' = (w.setCell ⟨ke, 0, none⟩ (.int .i64 n)).setCell ⟨b, 25, none⟩ (.int .i64 (wrap64 (J.broken + 1))) := by
  obtain ⟨-, -, c25, c26, c27, c28, c29⟩ := J.at tb mb l9 l16
  refine callsD_of_wpS Tryd.func29 rfl fun c₀ cs hu => ?_
  simp only [Tryd.ntmps29, List.size_toArray, List.length_cons, List.length_nil, Nat.reduceAdd, Nat.reduceSub, Array.replicate_succ, Array.replicate_zero, List.push_toArray, List.append_toArray, List.nil_append, List.cons_append]
  apply wpS_seq
  apply wpS_region
  simp [wpOpsS, go_sem, recoverD, hu, Exit.thenS]
  refine wpS_of_wp ?_
  obtain ⟨f1, z1⟩ := he.reads
  obtain ⟨f2, z2⟩ := hj.reads
  obtain ⟨f3, z3⟩ := hb.reads
  have d1 : ¬ ke = kj := n1
  have d2 : ¬ ke = b := n2
  have d3 : ¬ kj = ke := fun h => n1 h.symm
  have d4 : ¬ b = ke := fun h => n2 h.symm
  have ha := fun w => assert_errno w n
  clear he hj hb n1 n2 l9 l16
  go_wp2_with fail
  refine ⟨rfl, _, rfl, .tuple #[], ?_, rfl, rfl, rfl⟩
  simp [results, Tryd.results29]
theorem catch_none (w : World) (ke kj : Nat) :
    CallsD Tryd.prog 29 #[.pointer (some ⟨ke, 0, none⟩), .pointer (some ⟨kj, 0, none⟩)] .returning w fun e u' w' => e = .returned (.tuple #[]) ∧ u' = .returning ∧ w' = w := by
  refine callsD_of_wpS Tryd.func29 rfl fun c₀ cs hu => ?_
  simp only [Tryd.ntmps29, List.size_toArray, List.length_cons, List.length_nil, Nat.reduceAdd, Nat.reduceSub, Array.replicate_succ, Array.replicate_zero, List.push_toArray, List.append_toArray, List.nil_append, List.cons_append]
  apply wpS_seq
  apply wpS_region
  simp [wpOpsS, go_sem, recoverD, hu, Exit.thenS]
  refine wpS_of_wp ?_
  go_wp2_with fail
  cases c₀
  simp_all [bodyPostS, results, Tryd.results29]
structure OkJ (J : JA) : Prop where
  n : J.n ≤ 9
  m : J.m ≤ 16
  told : ∀ p, J.told.getD p 0 ≤ (J.T.l.length : Int)
  slot : (J.T.l.length : Int) ≤ J.T.slot
  slot4 : J.T.slot ≤ 4096
def kindsR (J : JA) (x : Sn) : JA × Int :=
  if x.kind = 1 then putR J x.who x.e else if x.kind = 2 then lineR J x.who.toNat x.index x.e else if x.kind = 3 then backR J x.who.toNat x.index
  else if x.kind = 4 then beganR J x.who.toNat x.index else if x.kind = 5 then toldR J x.who.toNat x.index x.e else wentR J x.who.toNat x.index
theorem kind_any {F : Nat → Prop} (w : World) (b : Nat) (J : JA) (x : Sn) (en pl : Bool) (least : Int) (g : Nat) (hk : kindF x.kind = some (en, pl, least, g)) (hm : mayE J x = 0) (h : JudgeX w F b J) (hok : OkJ J) (ho : OkE x.e) (hI : I64 x.e.kind)
    (hC : x.e.kind = 4 → ∀ w1, Keeps F w w1 → Calls Tryd.prog 65 #[.string (bs x.e.text)] w1 fun r w' => r = .returned (.int .i64 (chk x.e.text : Int)) ∧ Ext w1 w') :
    Calls Tryd.prog g #[.pointer (some ⟨b, 0, none⟩), x.v] w fun r w' => r = doneE (kindsR J x).2 ∧ Upd F w w' (judgeR b (kindsR J x).1) := by
  obtain ⟨kind, who, index, e⟩ := x
  obtain ⟨hn, hmm, ht, hs, h4⟩ := hok
  have hl : J.T.l.length ≤ 4096 := by omega
  dsimp only at hk hC ho hI
  unfold mayE at hm
  dsimp only at hm
  rw [hk] at hm
  dsimp only at hm
  have h1 : ¬ (index < least ∨ (en = true ∧ (e.kind = 1 ∨ enB e = false))) := fun hh => by rw [if_pos hh] at hm; cases hm
  rw [if_neg h1] at hm
  have h2 : ¬ (who < 0 ∨ (if pl then J.n else J.m) ≤ who) := fun hh => by rw [if_pos hh] at hm; cases hm
  have hw0 : 0 ≤ who := by omega
  obtain ⟨p, rfl⟩ : ∃ p : Nat, who = p := ⟨who.toNat, by omega⟩
  have hix : least ≤ index := by omega
  unfold kindsR
  dsimp only
  rw [show ((p : Int)).toNat = p from rfl]
  unfold kindF at hk
  by_cases k1 : kind = 1
  · rw [if_pos k1] at hk ⊢; cases hk; exact put_any w b J kind p index e h ho
  by_cases k2 : kind = 2
  · rw [if_neg k1, if_pos k2] at hk ⊢; cases hk; exact line_any w b J kind p index e h (by simp only [if_true] at h2; omega) hix (ht p) hl (by omega) ho hI hC
  by_cases k3 : kind = 3
  · rw [if_neg k1, if_neg k2, if_pos k3] at hk ⊢; cases hk; exact back_any w b J kind p index e h (by simp only [if_true] at h2; omega)
  have hp : kind = 4 ∨ kind = 5 ∨ kind = 6 → p < 16 := fun hh => by
    have : pl = false := by
      rw [if_neg k1, if_neg k2, if_neg k3] at hk
      rcases hh with hh | hh | hh <;> subst hh <;> cases hk <;> rfl
    subst this
    simp only [Bool.false_eq_true, if_false] at h2
    omega
  by_cases k4 : kind = 4
  · rw [if_neg k1, if_neg k2, if_neg k3, if_pos k4] at hk ⊢; cases hk; exact began_any w b J kind p index e h (hp (.inl k4)) hl
  by_cases k5 : kind = 5
  · rw [if_neg k1, if_neg k2, if_neg k3, if_neg k4, if_pos k5] at hk ⊢; cases hk; exact told_any w b J kind p index e h (hp (.inr (.inl k5))) hl
  · rw [if_neg k1, if_neg k2, if_neg k3, if_neg k4, if_neg k5] at hk ⊢
    by_cases k6 : kind = 6
    · rw [if_pos k6] at hk; cases hk; exact went_any w b J kind p index e h (hp (.inr (.inr k6)))
    · rw [if_neg k6] at hk; cases hk
theorem kind_enters {n : Int} {en pl : Bool} {least : Int} {g : Nat} (hk : kindF n = some (en, pl, least, g)) : ∀ args w, (callFunc g args).run Tryd.prog w = .ok (.enter g args) w := by
  unfold kindF at hk
  split at hk
  · cases hk; exact enters_of Tryd.func44 (by kernel_rfl) rfl
  split at hk
  · cases hk; exact enters_of Tryd.func46 (by kernel_rfl) rfl
  split at hk
  · cases hk; exact enters_of Tryd.func50 (by kernel_rfl) rfl
  split at hk
  · cases hk; exact enters_of Tryd.func51 (by kernel_rfl) rfl
  split at hk
  · cases hk; exact enters_of Tryd.func52 (by kernel_rfl) rfl
  split at hk
  · cases hk; exact enters_of Tryd.func53 (by kernel_rfl) rfl
  · cases hk
end Go.Proofs.YthhdgjofagdjeaaDoor
end
section
/- A judge sees a thing. Condition: it lies as 'JudgeX' says, and is 'OkJ'; of an entry that says something, that text.Check answers as the document's. -/
set_option linter.unusedVariables false
set_option linter.unusedSimpArgs false
set_option maxHeartbeats 2000000
set_option maxRecDepth 10000
namespace Go.Proofs.YthhdgjofagdjeaaDoor
open Go.RowKit

def seeR (J : JA) (x : Sn) : JA × Int :=
  if mayE J x = 0 then (if (kindsR J x).2 = 0 then ((kindsR J x).1, 0) else ({ (kindsR J x).1 with broken := wrap64 ((kindsR J x).1.broken + 1) }, (kindsR J x).2)) else (J, mayE J x)
theorem JA.setBroken (J : JA) (tb mb : Nat) (h9 : J.told.length = 9) (h16 : J.next.length = 16) (n : Int) : (J.cells tb mb).set 25 (.int .i64 n) = ({ J with broken := n } : JA).cells tb mb := by
  have a1 : (J.told.map iV).length = 9 := by rw [List.length_map, h9]
  have a2 : (J.next.map iV).length = 16 := by rw [List.length_map, h16]
  unfold JA.cells
  rw [List.set_append_right _ _ (by omega), a1, List.set_append_right _ _ (by omega), a2]
  rfl
theorem Mem.leaves {F : Nat → Prop} {w0 w' : World} {L : List Res} {P : Program} {fn : Func} {tmps : Array Value} {R : Ending → World → Prop} {ds : List Deferred} {u : FrameMode} (h : Mem F w0 w' L) (k : ∀ w, Mem F w0 w L → Leaves P fn tmps R ds u w) : Leaves P fn tmps R ds u w' := k _ h
theorem see_any {F : Nat → Prop} (w : World) (b : Nat) (J : JA) (x : Sn) (h : JudgeX w F b J) (hok : OkJ J) (ho : OkE x.e) (hIk : I64 x.kind) (hI : I64 x.e.kind)
    (hC : x.e.kind = 4 → ∀ w1, Keeps F w w1 → Calls Tryd.prog 65 #[.string (bs x.e.text)] w1 fun r w' => r = .returned (.int .i64 (chk x.e.text : Int)) ∧ Ext w1 w') :
    Calls Tryd.prog 14 #[.pointer (some ⟨b, 0, none⟩), x.v] w fun r w' => r = .returned (.int .i64 (seeR J x).2) ∧ Upd F w w' (judgeR b (seeR J x).1) := by
  have HLF := Lib.hid (show ∀ k, F k → k < w.heap.size from let ⟨_, _, _, h⟩ := h; h.lt)
  have HM := Lib.hid (Mem.start (r := judgeR b J) h)
  have HBL := Lib.hid (show b < w.heap.size from let ⟨_, _, _, h⟩ := h; h.lt b h.fb)
  have HOK := Lib.hid hok
  have HO := Lib.hid ho
  have HI := Lib.hid hI
  have HIK := Lib.hid hIk
  have HC := Lib.hid hC
  have hmf : ∀ (fn : Fn) (first cap : Array Value) (w : World), (Instr.makeFunc fn first cap).run Tryd.prog w = .ok (.func fn first cap) w := fun _ _ _ _ => rfl
  clear h hok ho hI hIk hC
  have HXV := Lib.hid (show x.v = .agg #[.int .i64 x.kind, .int .i64 x.who, .int .i64 x.index, .int .i64 x.e.kind, .int .i64 x.e.member, .int .i64 x.e.number, .string (bs x.e.text)] from rfl)
  rw [HXV.out]
  go_enter_defers Tryd.func14, Tryd.ntmps14
  have fM := HM.out.fa
  go_wp2_with fail
  all_goals clear fM
  refine nxt HM fun w0 M => ?_
  clear HM; have HM := M; clear M
  obtain ⟨Ahj, hj⟩ := HM.out.get (r := judgeR b J) (by with_reducible repeat first | exact ph | apply pt)
  refine (judge_none w0 b J hj).mono ?_
  rintro r wq ⟨rfl, hwq⟩
  rw [hwq]
  clear hwq wq hj
  have fM := HM.out.fa
  go_wp2_with fail
  all_goals clear fM
  refine nxt HM fun w1 M => ?_
  clear HM; have HM := M; clear M
  obtain ⟨Ahj, hj⟩ := HM.out.get (r := judgeR b J) (by with_reducible repeat first | exact ph | apply pt)
  have hk1 := HM.out.keepsTo
  rw [← HXV.out]
  refine (may_any w1 b J x hj HIK.out HI.out (fun h w2 h2 => HC.out h w2 (hk1.ext h2))).mono ?_
  rintro r w2 ⟨rfl, hE2⟩
  replace HM := Lib.hid (HM.out.ext hE2)
  clear hE2 hj hk1
  by_cases h0 : mayE J x = 0
  case neg =>
    have hq : seeR J x = (J, mayE J x) := by unfold seeR; rw [if_neg h0]
    have HQ := Lib.hid hq
    clear hq
    have h0' : (mayE J x == 0) = false := by simpa using h0
    have fM := HM.out.fa
    go_wp2_with fail
    all_goals clear fM
    refine nxt HM fun w3 M => ?_
    clear HM; have HM := M; clear M
    obtain ⟨Ahb, hb⟩ := HM.out.get (r := cellsR (w.heap.size + 1 + 1) 22 [.int .i64 (mayE J x)]) (by with_reducible repeat first | exact ph | apply pt)
    have hc := hb.2.reads.1
    refine ⟨.int .i64 (mayE J x), by simp [results, Tryd.results14, go_sem, hc], ?_, ?_⟩
    · rw [HQ.out]
    · rw [HQ.out]; exact (HM.out.pick (r := judgeR b J) (by with_reducible repeat first | exact ph | apply pt)).upd
  case pos =>
    obtain ⟨en, pl, least, g, hkf, hlk⟩ : ∃ en pl least g, kindF x.kind = some (en, pl, least, g) ∧ lookI kindsD x.kind (kindU false false 0 .nilFunc) = (kindU en pl least (.func (.func g) #[] #[]), true) := by
      rcases look_kinds x.kind with ⟨hn, hk⟩ | h
      · unfold mayE at h0; rw [hn] at h0; cases h0
      · exact h
    rw [h0]
    have H0 := Lib.hid h0
    have HKF := Lib.hid hkf
    have HK := Lib.hid hlk
    have henter := kind_enters hkf
    clear h0 hkf hlk
    have fM := HM.out.fa
    go_wp2_with fail
    all_goals clear fM
    refine nxt HM fun w3 M => ?_
    clear HM; have HM := M; clear M
    have hfk : ∀ W, (Instr.field 81 (.agg #[.bool en, .bool pl, .int .i64 least, .func (.func g) #[] #[]]) 3).run Tryd.prog W = .ok (.func (.func g) #[] #[]) W := fun _ => rfl
    have fM := HM.out.fa
    have hE0 : Keeps NoB w3 w3.drew := (Keeps.refl _ _).drew
    refine wp_region_planD [(0, 1), (1, 2), (1, 5), (1, 6), (2, 0), (2, 3), (0, 4)] [2, 5, 6] [0, 3, 7] [7] (ClsE w3) (by kernel_rfl) (by kernel_rfl) (by kernel_rfl) rfl rfl (ClsE.of hE0) (put_results 4 (results_cell Tryd.results14) (by kernel_rfl)) ?_; simp only [planL, nL]
    refine pR (v := ?_) rfl (fun W => ?_) ?_; rotate_left; (go_simp <;> with_reducible rfl); simp only [nP]
    iterate 3 (refine pL (v := ?_) rfl (fun W => ?_) ?_; rotate_left; (go_simp <;> with_reducible rfl); simp only [nP])
    refine plan_does rfl (fun K hK => ?_)
    go_wp2_with fail
    refine (kinds_any _).mono ?_
    rintro r w4 ⟨m, rfl, hm, hE1, hm1⟩
    have hE : Ext w3 w4 := hE0.ext hE1
    have hk1 := look_at hm x.kind HIK.out false
    rw [HK.out] at hk1
    unfold kindU at hk1
    replace HM := Lib.hid (HM.out.ext hE)
    refine hK _ _ ⟨ClsE.of (by assumption), ?_⟩; clear hK K; try simp only [nP]
    refine plan_does rfl (fun K hK => ?_)
    go_wp2_with fail
    refine ⟨ClsE.of (by repeat (first | assumption | exact Keeps.refl _ _ | refine Keeps.alloc ?_ _ | refine Keeps.setOne ?_ _ _ | refine Keeps.setCell ?_ _ _ (.inl (by first | rfl | exact .inl rfl | exact .inr rfl | omega)) | refine Keeps.drew ?_)), ?_⟩; try simp only [nP]
    refine pR (v := ?_) rfl (fun W => ?_) ?_; rotate_left; (go_simp <;> with_reducible rfl); simp only [nP]
    refine plan_nil ?_; simp only [tailL, List.filterMap_cons, List.filterMap_nil, nL]; change wpList _ _ _ (_ :: []) _ _
    go_wp2_with fail
    refine nxt HM fun w5 M => ?_
    clear HM; have HM := M; clear M
    obtain ⟨A, hA, hAF, hS⟩ := (HM.out.pick (r := judgeR b J) (by with_reducible repeat first | exact ph | apply pt)).step'
    have hk1 := HM.out.keepsTo
    refine (kind_any w5 b J x en pl least g HKF.out H0.out hA HOK.out HO.out HI.out (fun h w2 h2 => HC.out h w2 (hk1.then h2 fun i hi h => by
      rcases hAF i h with h | h
      · exact h
      · omega))).mono ?_
    rintro r w6 ⟨rfl, hU⟩
    replace HM := Lib.hid (hS _ _ hU)
    clear hU hA hAF hS hk1
    clear A
    by_cases he : (kindsR J x).2 = 0
    · have hq : seeR J x = ((kindsR J x).1, 0) := by unfold seeR; rw [if_pos H0.out, if_pos he]
      have HQ := Lib.hid hq
      rw [doneE, if_pos he]
      clear he hq
      have fM := HM.out.fa
      go_wp2_with fail
      all_goals clear fM
      refine nxt HM fun w7 M => ?_
      clear HM; have HM := M; clear M
      obtain ⟨Ahb, hb⟩ := HM.out.get (r := cellsR (w.heap.size + 1 + 1) 22 [.int .i64 0]) (by with_reducible repeat first | exact ph | apply pt)
      have hc := hb.2.reads.1
      refine leaves_cons (f := 29) (args := #[.pointer (some ⟨w.heap.size + 1 + 1, 0, none⟩), .pointer (some ⟨w.heap.size, 0, none⟩)]) (by intro h; cases h) (enters_of Tryd.func29 (by kernel_rfl) rfl _ _) ?_
      refine (catch_none w7 _ _).mono ?_
      rintro r u wq ⟨rfl, rfl, rfl⟩
      refine ⟨.int .i64 0, by simp [results, Tryd.results14, go_sem, hc], ?_, ?_⟩
      · rw [HQ.out]
      · rw [HQ.out]; exact (HM.out.pick (r := judgeR b (kindsR J x).1) (by with_reducible repeat first | exact ph | apply pt)).upd
    · have hq : seeR J x = ({ (kindsR J x).1 with broken := wrap64 ((kindsR J x).1.broken + 1) }, (kindsR J x).2) := by unfold seeR; rw [if_pos H0.out, if_neg he]
      have HQ := Lib.hid hq
      rw [doneE, if_neg he]
      unfold errE
      clear he hq
      obtain ⟨⟨tb, mb⟩, ⟨l9, l16⟩, M⟩ := (HM.out.pick (r := judgeR b (kindsR J x).1) (by with_reducible repeat first | exact ph | apply pt)).openJ
      replace HM := Lib.hid M
      clear M
      obtain ⟨Ahb, hb⟩ := HM.out.get (r := cellsR (w.heap.size + 1 + 1) 22 [.int .i64 0]) (by with_reducible repeat first | exact ph | apply pt)
      obtain ⟨Ahj, hj⟩ := HM.out.get (r := cellsR w.heap.size 39 [.pointer (some ⟨b, 0, none⟩)]) (by with_reducible repeat first | exact ph | apply pt)
      obtain ⟨Ahx, hx⟩ := HM.out.get (r := cellsR b 76 ((kindsR J x).1.cells tb mb)) (by with_reducible repeat first | exact ph | apply pt)
      have hbl := HBL.out
      have HL := Lib.hid (show _ ∧ _ from ⟨l9, l16⟩)
      refine leaves_cons (f := 29) (args := #[.pointer (some ⟨w.heap.size + 1 + 1, 0, none⟩), .pointer (some ⟨w.heap.size, 0, none⟩)]) (by intro h; cases h) (enters_of Tryd.func29 (by kernel_rfl) rfl _ _) ?_
      refine (catch_panic w6 _ _ b tb mb (kindsR J x).1 0 (kindsR J x).2 [] hb.2 hj.2 hx.2 l9 l16 (by omega) (by omega)).mono ?_
      clear hb hj hx l9 l16 hbl
      clear Ahb Ahj Ahx
      rintro r u wq ⟨rfl, rfl, rfl⟩
      show Leaves _ _ _ _ [] .returning _
      apply Mem.leaves
      · skip
        exact HM.out.to
      intro w7 M
      simp only [List.set_cons_zero, List.set_cons_succ] at M
      rw [(kindsR J x).1.setBroken tb mb HL.out.1 HL.out.2] at M
      replace HM := Lib.hid M
      clear M
      obtain ⟨Ahb, hb⟩ := HM.out.get (r := cellsR (w.heap.size + 1 + 1) 22 [.int .i64 (kindsR J x).2]) (by with_reducible repeat first | exact ph | apply pt)
      have hc := hb.2.reads.1
      refine ⟨.int .i64 (kindsR J x).2, by simp [results, Tryd.results14, go_sem, hc], ?_, ?_⟩
      · rw [HQ.out]
      · rw [HQ.out]; exact Mem.shutJ HM.out HL.out.1 HL.out.2 (by with_reducible repeat first | exact ph | apply pt) (by with_reducible repeat first | exact ph | apply pt) (by with_reducible repeat first | exact ph | apply pt)
end Go.Proofs.YthhdgjofagdjeaaDoor
end
