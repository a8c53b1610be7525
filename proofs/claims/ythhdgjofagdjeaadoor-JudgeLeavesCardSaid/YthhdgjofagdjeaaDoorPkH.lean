/- Texts JZ, one behind the other. Conditions: as each says. -/
import Derived.Test.YthhdgjofagdjeaaDoorPkG
section
/- May something be seen? And what each kind of thing does, each told whole. Condition: the judge lies as 'JudgeX' says; of an entry that says something, that text.Check answers as the document's. -/
set_option linter.unusedVariables false
set_option linter.unusedSimpArgs false
set_option maxHeartbeats 2000000
set_option maxRecDepth 10000
namespace Go.Proofs.YthhdgjofagdjeaaDoor
open Go.RowKit

def putR (J : JA) (who : Int) (e : En) : JA × Int := if e.member = who then (J.putIn e, 0) else (J, 406)
def backR (J : JA) (p : Nat) (index : Int) : JA × Int := if ¬ J.told.getD p 0 ≤ index then (J, 404) else if ¬ index ≤ (J.T.l.length : Int) then (J, 403) else ({ J with told := J.told.set p index }, 0)
def toldR (J : JA) (p : Nat) (index : Int) (e : En) : JA × Int := if ¬ index = J.next.getD p 0 then (J, 403) else if ¬ index < (J.T.l.length : Int) then (J, 405) else if hasB J.T.l index e = false then (J, 400) else ({ J with next := J.next.set p (index + 1) }, 0)
def wentR (J : JA) (p : Nat) (index : Int) : JA × Int := if index ≤ J.next.getD p 0 then ({ J with next := J.next.set p index }, 0) else (J, 403)
theorem upd_same {F : Nat → Prop} {w w' : World} {b : Nat} {J : JA} (h : JudgeX w F b J) (e : Ext w w') : Upd F w w' (judgeR b J) := ⟨F, h.ext e, e.keeps, fun k hk => .inl hk⟩
theorem upd_set {F : Nat → Prop} {w w' : World} {b : Nat} {J : JA} (h : JudgeX w' F b J) (e : Keeps F w w') : Upd F w w' (judgeR b J) := ⟨F, h, e, fun k hk => .inl hk⟩
theorem put_any {F : Nat → Prop} (w : World) (b : Nat) (J : JA) (kind who index : Int) (e : En) (h : JudgeX w F b J) (ho : OkE e) :
    Calls Tryd.prog 44 #[.pointer (some ⟨b, 0, none⟩), (⟨kind, who, index, e⟩ : Sn).v] w fun r w' => r = doneE (putR J who e).2 ∧ Upd F w w' (judgeR b (putR J who e).1) := by
  unfold putR
  by_cases h1 : e.member = who
  · rw [if_pos h1]; exact (put_ok w b J kind who index e h ho h1).mono fun r w' ⟨a, c, d⟩ => ⟨a, upd_set c d⟩
  · rw [if_neg h1]; exact (put_bad w b J kind who index e h h1).mono fun r w' ⟨a, d⟩ => ⟨a, upd_same h d⟩
theorem back_any {F : Nat → Prop} (w : World) (b : Nat) (J : JA) (kind : Int) (p : Nat) (index : Int) (e : En) (h : JudgeX w F b J) (hp : p < 9) :
    Calls Tryd.prog 50 #[.pointer (some ⟨b, 0, none⟩), (⟨kind, p, index, e⟩ : Sn).v] w fun r w' => r = doneE (backR J p index).2 ∧ Upd F w w' (judgeR b (backR J p index).1) := by
  unfold backR
  by_cases h1 : J.told.getD p 0 ≤ index
  · rw [if_neg (fun h => h h1)]
    by_cases h2 : index ≤ (J.T.l.length : Int)
    · rw [if_neg (fun h => h h2)]; exact (back_ok w b J kind p index e h hp h1 h2).mono fun r w' ⟨a, c, d⟩ => ⟨a, upd_set c d⟩
    · rw [if_pos h2]; exact (back_skip w b J kind p index e h hp h1 h2).mono fun r w' ⟨a, d⟩ => ⟨a, upd_same h d⟩
  · rw [if_pos h1]; exact (back_short w b J kind p index e h hp h1).mono fun r w' ⟨a, d⟩ => ⟨a, upd_same h d⟩
theorem told_any {F : Nat → Prop} (w : World) (b : Nat) (J : JA) (kind : Int) (p : Nat) (index : Int) (e : En) (h : JudgeX w F b J) (hp : p < 16) (hl : J.T.l.length ≤ 4096) :
    Calls Tryd.prog 52 #[.pointer (some ⟨b, 0, none⟩), (⟨kind, p, index, e⟩ : Sn).v] w fun r w' => r = doneE (toldR J p index e).2 ∧ Upd F w w' (judgeR b (toldR J p index e).1) := by
  unfold toldR
  by_cases h1 : index = J.next.getD p 0
  · rw [if_neg (fun h => h h1)]
    by_cases h2 : index < (J.T.l.length : Int)
    · rw [if_neg (fun h => h h2)]
      cases h3 : hasB J.T.l index e
      · rw [if_pos rfl]; exact (told_two w b J kind p index e h hp hl h1 h2 h3).mono fun r w' ⟨a, d⟩ => ⟨a, upd_same h d⟩
      · rw [if_neg (by simp)]; exact (told_ok w b J kind p index e h hp hl h1 h2 h3).mono fun r w' ⟨a, c, d⟩ => ⟨a, upd_set c d⟩
    · rw [if_pos h2]; exact (told_early w b J kind p index e h hp hl h1 h2).mono fun r w' ⟨a, d⟩ => ⟨a, upd_same h d⟩
  · rw [if_pos h1]; exact (told_skip w b J kind p index e h hp hl h1).mono fun r w' ⟨a, d⟩ => ⟨a, upd_same h d⟩
theorem went_any {F : Nat → Prop} (w : World) (b : Nat) (J : JA) (kind : Int) (p : Nat) (index : Int) (e : En) (h : JudgeX w F b J) (hp : p < 16) :
    Calls Tryd.prog 53 #[.pointer (some ⟨b, 0, none⟩), (⟨kind, p, index, e⟩ : Sn).v] w fun r w' => r = doneE (wentR J p index).2 ∧ Upd F w w' (judgeR b (wentR J p index).1) := by
  unfold wentR
  by_cases h1 : index ≤ J.next.getD p 0
  · rw [if_pos h1]; exact (went_ok w b J kind p index e h hp h1).mono fun r w' ⟨a, c, d⟩ => ⟨a, upd_set c d⟩
  · rw [if_neg h1]; exact (went_bad w b J kind p index e h hp h1).mono fun r w' ⟨a, d⟩ => ⟨a, upd_same h d⟩

def kindF (n : Int) : Option (Bool × Bool × Int × Nat) :=
  if n = 1 then some (true, false, 0, 44) else if n = 2 then some (true, true, 0, 46) else if n = 3 then some (false, true, 0, 50)
  else if n = 4 then some (false, false, 0, 51) else if n = 5 then some (true, false, 0, 52) else if n = 6 then some (false, false, -1, 53) else none
def kindU (en pl : Bool) (least : Int) (f : Value) : Value := .agg #[.bool en, .bool pl, .int .i64 least, f]
theorem zeroKind (w : World) : (zeroValue 81).run Tryd.prog w = .ok (kindU false false 0 .nilFunc) w := by kernel_rfl
theorem look_kinds (n : Int) : (kindF n = none ∧ lookI kindsD n (kindU false false 0 .nilFunc) = (kindU false false 0 .nilFunc, false)) ∨ ∃ en pl least g, kindF n = some (en, pl, least, g) ∧ lookI kindsD n (kindU false false 0 .nilFunc) = (kindU en pl least (.func (.func g) #[] #[]), true) := by
  by_cases h1 : n = 1
  · subst h1; exact .inr ⟨_, _, _, _, rfl, rfl⟩
  by_cases h2 : n = 2
  · subst h2; exact .inr ⟨_, _, _, _, rfl, rfl⟩
  by_cases h3 : n = 3
  · subst h3; exact .inr ⟨_, _, _, _, rfl, rfl⟩
  by_cases h4 : n = 4
  · subst h4; exact .inr ⟨_, _, _, _, rfl, rfl⟩
  by_cases h5 : n = 5
  · subst h5; exact .inr ⟨_, _, _, _, rfl, rfl⟩
  by_cases h6 : n = 6
  · subst h6; exact .inr ⟨_, _, _, _, rfl, rfl⟩
  refine .inl ⟨by unfold kindF; rw [if_neg h1, if_neg h2, if_neg h3, if_neg h4, if_neg h5, if_neg h6], ?_⟩
  have a1 : ¬ (1 : Int) = n := fun h => h1 h.symm
  have a2 : ¬ (2 : Int) = n := fun h => h2 h.symm
  have a3 : ¬ (3 : Int) = n := fun h => h3 h.symm
  have a4 : ¬ (4 : Int) = n := fun h => h4 h.symm
  have a5 : ¬ (5 : Int) = n := fun h => h5 h.symm
  have a6 : ¬ (6 : Int) = n := fun h => h6 h.symm
  simp [lookI, kindsD, a1, a2, a3, a4, a5, a6]
theorem look_at {w : World} {m : Nat} (h : MapI w m kindsD) (n : Int) (hI : I64 n) (ok : Bool) :
    (Instr.lookup 82 (.map (some m)) (.int .i64 n) ok).run Tryd.prog w = .ok (if ok then .tuple #[(lookI kindsD n (kindU false false 0 .nilFunc)).1, .bool (lookI kindsD n (kindU false false 0 .nilFunc)).2] else (lookI kindsD n (kindU false false 0 .nilFunc)).1) w :=
  MapI.look (D := kindsD) h Tryd.underlying82 Tryd.underlying32 zeroKind hI (by unfold kindsD; simp) ok
def mayE (J : JA) (x : Sn) : Int :=
  match kindF x.kind with
  | none => 2
  | some (en, pl, least, _) => if x.index < least ∨ (en = true ∧ (x.e.kind = 1 ∨ enB x.e = false)) then 2 else if x.who < 0 ∨ (if pl then J.n else J.m) ≤ x.who then 4 else 0
theorem may_any {F : Nat → Prop} (w : World) (b : Nat) (J : JA) (x : Sn) (h : JudgeX w F b J) (hI : I64 x.kind) (hIe : I64 x.e.kind)
    (hC : x.e.kind = 4 → ∀ w1, Ext w w1 → Calls Tryd.prog 65 #[.string (bs x.e.text)] w1 fun r w' => r = .returned (.int .i64 (chk x.e.text : Int)) ∧ Ext w1 w') :
    Calls Tryd.prog 28 #[.pointer (some ⟨b, 0, none⟩), x.v] w fun r w' => r = .returned (.int .i64 (mayE J x)) ∧ Ext w w' := by
  obtain ⟨Ft, tb, mb, h⟩ := h
  obtain ⟨-, -, c25, c26, c27, c28, c29⟩ := J.at tb mb h.l9 h.l16
  have HB := Lib.hid h.box
  have HM := Lib.hid (Mem.start0 w)
  have HI := Lib.hid hI
  have HIE := Lib.hid hIe
  have HC := Lib.hid hC
  clear h hI hIe hC c25 c28 c29
  unfold Sn.v
  rcases look_kinds x.kind with ⟨hn, hk⟩ | ⟨en, pl, least, g, hn, hk⟩
  · skip
    have HK := Lib.hid hk
    have HN := Lib.hid hn
    clear hn hk
    go_enter Tryd.func28, Tryd.ntmps28
    have fM := HM.out.facts
    simp only [seeS, talkR_tag, enR_tag, judgeR_tag] at fM
    have fMHB := (HB.out.ext HM.out.extTo).reads
    have fLHB := (HB.out.ext HM.out.extTo).lt
    go_wp2_with fail
    all_goals clear fM fMHB fLHB
    first | apply Mem.call | apply Mem.postD | apply Mem.stop | apply Mem.toUpd | apply Mem.list | apply Mem.code | apply Mem.post | apply Mem.postM
    · with_reducible repeat first | exact HM.out | exact ph | apply pt | apply Mem.drew | apply Mem.alloc | apply Mem.set | apply Mem.allocO | (simp only [World.size_alloc, World.size_setCell, World.size_drew]; rfl) | rfl
    intro w0 M
    try simp only [List.set_cons_zero, List.set_cons_succ] at M
    replace HM := Lib.hid M
    clear M
    have fM := HM.out.facts
    simp only [seeS, talkR_tag, enR_tag, judgeR_tag] at fM
    have fMHB := (HB.out.ext HM.out.extTo).reads
    have fLHB := (HB.out.ext HM.out.extTo).lt
    have hE0 : Keeps NoB w0 w0.drew := (Keeps.refl _ _).drew
    refine wp_region_forks [2] [0, 3, 7, 8, 9] (ClsE w0) (by kernel_rfl) ?_
    refine any_seg (L := #[false, true, true, false, false, false, false, false, false, false]) [(0, 1), (1, 2)] 8 (by kernel_rfl) (fun _ _ _ d _ h => by cases d <;> exact h) (by kernel_rfl) (by kernel_rfl) rfl rfl (ClsE.of (by repeat (first | assumption | exact Keeps.refl _ _ | refine Keeps.alloc ?_ _ | refine Keeps.setOne ?_ _ _ | refine Keeps.setCell ?_ _ _ (.inl (by first | rfl | exact .inl rfl | exact .inr rfl | omega)) | refine Keeps.drew ?_))) ?_; simp only [planL, List.getElem?_toArray, List.getElem?_cons_succ, List.getElem?_cons_zero]
    refine plan_pure rfl (fun K hK => quiet_run (v := ?_) (fun W _ => ?_) (hK _ ?_)); rotate_left; (go_simp <;> with_reducible rfl); clear hK K; simp only [nP]
    refine plan_load rfl (fun K hK => quiet_runE (v := ?_) (fun W => ?_) (hK _ ?_)); rotate_left; (go_simp <;> with_reducible rfl); clear hK K; simp only [nP]
    refine plan_nil ?_
    refine any_fork 0 7 (by kernel_rfl) (by kernel_rfl) rfl rfl rfl rfl (fun K hK => ?_) (fun K hK => ?_)
    · skip
      go_wp2_with fail
      refine (kinds_any _).mono ?_
      rintro r w1 ⟨m, rfl, hm, hE1, hm1⟩
      have hE : Ext w0 w1 := hE0.ext hE1
      have hk1 := look_at hm x.kind HI.out true
      have hk2 := look_at (hm.ext ((Keeps.refl NoB w1).alloc (Obj.cells #[.bool false, .bool false, .int .i64 0, .nilFunc] 81))) x.kind HI.out true
      rw [HK.out] at hk1 hk2
      unfold kindU at hk1 hk2
      replace HM := Lib.hid (HM.out.ext hE)
      refine hK _ _ ⟨ClsE.of (by assumption), ?_⟩; clear hK K; try simp only [nP]
      refine any_seg (L := #[true, true, true, false, false, false, false, false, false, false]) [] 7 (by kernel_rfl) (fun _ _ _ d _ h => by cases d <;> exact h) (by kernel_rfl) (by kernel_rfl) rfl rfl (ClsE.of (by repeat (first | assumption | exact Keeps.refl _ _ | refine Keeps.alloc ?_ _ | refine Keeps.setOne ?_ _ _ | refine Keeps.setCell ?_ _ _ (.inl (by first | rfl | exact .inl rfl | exact .inr rfl | omega)) | refine Keeps.drew ?_))) ?_; simp only [planL, List.getElem?_toArray, List.getElem?_cons_succ, List.getElem?_cons_zero]
      refine plan_nil ?_
      refine any_fork 3 7 (by kernel_rfl) (by kernel_rfl) rfl rfl rfl rfl (fun K hK => ?_) (fun K hK => ?_)
      · skip
        go_wp2_with fail
        refine ⟨ClsE.of (by repeat (first | assumption | exact Keeps.refl _ _ | refine Keeps.alloc ?_ _ | refine Keeps.setOne ?_ _ _ | refine Keeps.setCell ?_ _ _ (.inl (by first | rfl | exact .inl rfl | exact .inr rfl | omega)) | refine Keeps.drew ?_)), ?_⟩; try simp only [nP]
        refine any_end [(0, 4), (0, 5), (0, 6), (2, 7)] [8, 9] (by kernel_rfl) (fun _ _ _ d _ h => by cases d <;> exact h) (by kernel_rfl) (by kernel_rfl) rfl rfl (ClsE.of (by repeat (first | assumption | exact Keeps.refl _ _ | refine Keeps.alloc ?_ _ | refine Keeps.setOne ?_ _ _ | refine Keeps.setCell ?_ _ _ (.inl (by first | rfl | exact .inl rfl | exact .inr rfl | omega)) | refine Keeps.drew ?_))) ?_; simp only [planL, List.getElem?_toArray, List.getElem?_cons_succ, List.getElem?_cons_zero]
        refine plan_pure rfl (fun K hK => quiet_move' _ rfl (hK _ ?_)); clear hK K; simp only [nP, nE]
        refine plan_pure rfl (fun K hK => quiet_run (v := ?_) (fun W _ => ?_) (hK _ ?_)); rotate_left; (go_simp <;> with_reducible rfl); clear hK K; simp only [nP]
        refine plan_pure rfl (fun K hK => quiet_run (v := ?_) (fun W _ => ?_) (hK _ ?_)); rotate_left; (go_simp <;> with_reducible rfl); clear hK K; simp only [nP]
        refine plan_does rfl (fun K hK => ?_)
        go_wp2_with fail
        refine ⟨ClsE.of (by repeat (first | assumption | exact Keeps.refl _ _ | refine Keeps.alloc ?_ _ | refine Keeps.setOne ?_ _ _ | refine Keeps.setCell ?_ _ _ (.inl (by first | rfl | exact .inl rfl | exact .inr rfl | omega)) | refine Keeps.drew ?_)), ?_⟩; try simp only [nP]
        refine plan_nil ?_; simp only [tailL, List.filterMap_cons, List.filterMap_nil, List.getElem?_toArray, List.getElem?_cons_succ, List.getElem?_cons_zero]; change wpList _ _ _ (_ :: _ :: []) _ _
        clear hk1 hk2 hm
        clear fM fMHB fLHB
        first | apply Mem.call | apply Mem.postD | apply Mem.stop | apply Mem.toUpd | apply Mem.list | apply Mem.code | apply Mem.post | apply Mem.postM
        · with_reducible repeat first | exact HM.out | exact ph | apply pt | apply Mem.drew | apply Mem.alloc | apply Mem.set | apply Mem.allocO | (simp only [World.size_alloc, World.size_setCell, World.size_drew]; rfl) | rfl
        intro w2 M
        try simp only [List.set_cons_zero, List.set_cons_succ] at M
        replace HM := Lib.hid M
        clear M
        have fM := HM.out.facts
        simp only [seeS, talkR_tag, enR_tag, judgeR_tag] at fM
        have fMHB := (HB.out.ext HM.out.extTo).reads
        have fLHB := (HB.out.ext HM.out.extTo).lt
        go_wp2_with fail
        all_goals clear fM fMHB fLHB
        go_ret
        refine ⟨?_, ?_⟩
        rotate_left
        · apply Mem.extTo
          with_reducible repeat first | exact HM.out | exact ph | apply pt | apply Mem.drew | apply Mem.alloc | apply Mem.set | apply Mem.allocO | (simp only [World.size_alloc, World.size_setCell, World.size_drew]; rfl) | rfl
        unfold mayE
        rw [HN.out]
        rfl
      · skip
        go_wp2_with fail
        refine ⟨ClsE.of (by repeat (first | assumption | exact Keeps.refl _ _ | refine Keeps.alloc ?_ _ | refine Keeps.setOne ?_ _ _ | refine Keeps.setCell ?_ _ _ (.inl (by first | rfl | exact .inl rfl | exact .inr rfl | omega)) | refine Keeps.drew ?_)), ?_⟩; try simp only [nP]
        refine any_end [(2, 3), (0, 4), (0, 5), (0, 6)] [8, 9] (by kernel_rfl) (fun _ _ _ d _ h => by cases d <;> exact h) (by kernel_rfl) (by kernel_rfl) rfl rfl (ClsE.of (by repeat (first | assumption | exact Keeps.refl _ _ | refine Keeps.alloc ?_ _ | refine Keeps.setOne ?_ _ _ | refine Keeps.setCell ?_ _ _ (.inl (by first | rfl | exact .inl rfl | exact .inr rfl | omega)) | refine Keeps.drew ?_))) ?_; simp only [planL, List.getElem?_toArray, List.getElem?_cons_succ, List.getElem?_cons_zero]
        refine plan_does rfl (fun K hK => ?_)
        go_wp2_with fail
        refine ⟨ClsE.of (by repeat (first | assumption | exact Keeps.refl _ _ | refine Keeps.alloc ?_ _ | refine Keeps.setOne ?_ _ _ | refine Keeps.setCell ?_ _ _ (.inl (by first | rfl | exact .inl rfl | exact .inr rfl | omega)) | refine Keeps.drew ?_)), ?_⟩; try simp only [nP]
        refine plan_pure rfl (fun K hK => quiet_move' _ rfl (hK _ ?_)); clear hK K; simp only [nP, nE]
        refine plan_pure rfl (fun K hK => quiet_run (v := ?_) (fun W _ => ?_) (hK _ ?_)); rotate_left; (go_simp <;> with_reducible rfl); clear hK K; simp only [nP]
        refine plan_pure rfl (fun K hK => quiet_run (v := ?_) (fun W _ => ?_) (hK _ ?_)); rotate_left; (go_simp <;> with_reducible rfl); clear hK K; simp only [nP]
        refine plan_nil ?_; simp only [tailL, List.filterMap_cons, List.filterMap_nil, List.getElem?_toArray, List.getElem?_cons_succ, List.getElem?_cons_zero]; change wpList _ _ _ (_ :: _ :: []) _ _
        clear hk1 hk2 hm
        clear fM fMHB fLHB
        first | apply Mem.call | apply Mem.postD | apply Mem.stop | apply Mem.toUpd | apply Mem.list | apply Mem.code | apply Mem.post | apply Mem.postM
        · with_reducible repeat first | exact HM.out | exact ph | apply pt | apply Mem.drew | apply Mem.alloc | apply Mem.set | apply Mem.allocO | (simp only [World.size_alloc, World.size_setCell, World.size_drew]; rfl) | rfl
        intro w2 M
        try simp only [List.set_cons_zero, List.set_cons_succ] at M
        replace HM := Lib.hid M
        clear M
        have fM := HM.out.facts
        simp only [seeS, talkR_tag, enR_tag, judgeR_tag] at fM
        have fMHB := (HB.out.ext HM.out.extTo).reads
        have fLHB := (HB.out.ext HM.out.extTo).lt
        go_wp2_with fail
        all_goals clear fM fMHB fLHB
        go_ret
        refine ⟨?_, ?_⟩
        rotate_left
        · apply Mem.extTo
          with_reducible repeat first | exact HM.out | exact ph | apply pt | apply Mem.drew | apply Mem.alloc | apply Mem.set | apply Mem.allocO | (simp only [World.size_alloc, World.size_setCell, World.size_drew]; rfl) | rfl
        unfold mayE
        rw [HN.out]
        rfl
    · skip
      go_wp2_with fail
      refine ⟨ClsE.of (by repeat (first | assumption | exact Keeps.refl _ _ | refine Keeps.alloc ?_ _ | refine Keeps.setOne ?_ _ _ | refine Keeps.setCell ?_ _ _ (.inl (by first | rfl | exact .inl rfl | exact .inr rfl | omega)) | refine Keeps.drew ?_)), ?_⟩; try simp only [nP]
      refine any_end [(2, 0), (2, 3), (0, 4), (0, 5), (0, 6)] [8, 9] (by kernel_rfl) (fun _ _ _ d _ h => by cases d <;> exact h) (by kernel_rfl) (by kernel_rfl) rfl rfl (ClsE.of (by repeat (first | assumption | exact Keeps.refl _ _ | refine Keeps.alloc ?_ _ | refine Keeps.setOne ?_ _ _ | refine Keeps.setCell ?_ _ _ (.inl (by first | rfl | exact .inl rfl | exact .inr rfl | omega)) | refine Keeps.drew ?_))) ?_; simp only [planL, List.getElem?_toArray, List.getElem?_cons_succ, List.getElem?_cons_zero]
      refine plan_does rfl (fun K hK => ?_)
      go_wp2_with fail
      refine (kinds_any _).mono ?_
      rintro r w1 ⟨m, rfl, hm, hE1, hm1⟩
      have hE : Ext (w0.alloc (Obj.cells #[.bool false, .bool false, .int .i64 0, .nilFunc] 81)) w1 := (Ext.drew0 _).ext hE1
      have hEE : Ext w0 w1 := ((Keeps.refl NoB w0).alloc _).ext hE
      have hk1 := look_at hm x.kind HI.out true
      rw [HK.out] at hk1
      unfold kindU at hk1
      replace HM := Lib.hid ((Mem.alloc (cs := [.bool false, .bool false, .int .i64 0, .nilFunc]) (t := 81) HM.out rfl).ext hE)
      refine hK _ _ ⟨ClsE.of (by assumption), ?_⟩; clear hK K; try simp only [nP]
      refine plan_does rfl (fun K hK => ?_)
      go_wp2_with fail
      refine ⟨ClsE.of (by repeat (first | assumption | exact Keeps.refl _ _ | refine Keeps.alloc ?_ _ | refine Keeps.setOne ?_ _ _ | refine Keeps.setCell ?_ _ _ (.inl (by first | rfl | exact .inl rfl | exact .inr rfl | omega)) | refine Keeps.drew ?_)), ?_⟩; try simp only [nP]
      refine plan_pure rfl (fun K hK => quiet_move' _ rfl (hK _ ?_)); clear hK K; simp only [nP, nE]
      refine plan_pure rfl (fun K hK => quiet_run (v := ?_) (fun W _ => ?_) (hK _ ?_)); rotate_left; (go_simp <;> with_reducible rfl); clear hK K; simp only [nP]
      refine plan_pure rfl (fun K hK => quiet_run (v := ?_) (fun W _ => ?_) (hK _ ?_)); rotate_left; (go_simp <;> with_reducible rfl); clear hK K; simp only [nP]
      refine plan_nil ?_; simp only [tailL, List.filterMap_cons, List.filterMap_nil, List.getElem?_toArray, List.getElem?_cons_succ, List.getElem?_cons_zero]; change wpList _ _ _ (_ :: _ :: []) _ _
      clear hk1 hm
      clear fM fMHB fLHB
      first | apply Mem.call | apply Mem.postD | apply Mem.stop | apply Mem.toUpd | apply Mem.list | apply Mem.code | apply Mem.post | apply Mem.postM
      · with_reducible repeat first | exact HM.out | exact ph | apply pt | apply Mem.drew | apply Mem.alloc | apply Mem.set | apply Mem.allocO | (simp only [World.size_alloc, World.size_setCell, World.size_drew]; rfl) | rfl
      intro w2 M
      try simp only [List.set_cons_zero, List.set_cons_succ] at M
      replace HM := Lib.hid M
      clear M
      have fM := HM.out.facts
      simp only [seeS, talkR_tag, enR_tag, judgeR_tag] at fM
      have fMHB := (HB.out.ext HM.out.extTo).reads
      have fLHB := (HB.out.ext HM.out.extTo).lt
      go_wp2_with fail
      all_goals clear fM fMHB fLHB
      go_ret
      refine ⟨?_, ?_⟩
      rotate_left
      · apply Mem.extTo
        with_reducible repeat first | exact HM.out | exact ph | apply pt | apply Mem.drew | apply Mem.alloc | apply Mem.set | apply Mem.allocO | (simp only [World.size_alloc, World.size_setCell, World.size_drew]; rfl) | rfl
      unfold mayE
      rw [HN.out]
      rfl
  · skip
    have HK := Lib.hid hk
    have HN := Lib.hid hn
    clear hn hk
    go_enter Tryd.func28, Tryd.ntmps28
    have fM := HM.out.facts
    simp only [seeS, talkR_tag, enR_tag, judgeR_tag] at fM
    have fMHB := (HB.out.ext HM.out.extTo).reads
    have fLHB := (HB.out.ext HM.out.extTo).lt
    go_wp2_with fail
    all_goals clear fM fMHB fLHB
    first | apply Mem.call | apply Mem.postD | apply Mem.stop | apply Mem.toUpd | apply Mem.list | apply Mem.code | apply Mem.post | apply Mem.postM
    · with_reducible repeat first | exact HM.out | exact ph | apply pt | apply Mem.drew | apply Mem.alloc | apply Mem.set | apply Mem.allocO | (simp only [World.size_alloc, World.size_setCell, World.size_drew]; rfl) | rfl
    intro w0 M
    try simp only [List.set_cons_zero, List.set_cons_succ] at M
    replace HM := Lib.hid M
    clear M
    have fM := HM.out.facts
    simp only [seeS, talkR_tag, enR_tag, judgeR_tag] at fM
    have fMHB := (HB.out.ext HM.out.extTo).reads
    have fLHB := (HB.out.ext HM.out.extTo).lt
    have hE0 : Keeps NoB w0 w0.drew := (Keeps.refl _ _).drew
    refine wp_region_forks [2] [0, 3, 7, 8, 9] (ClsE w0) (by kernel_rfl) ?_
    refine any_seg (L := #[false, true, true, false, false, false, false, false, false, false]) [(0, 1), (1, 2)] 8 (by kernel_rfl) (fun _ _ _ d _ h => by cases d <;> exact h) (by kernel_rfl) (by kernel_rfl) rfl rfl (ClsE.of (by repeat (first | assumption | exact Keeps.refl _ _ | refine Keeps.alloc ?_ _ | refine Keeps.setOne ?_ _ _ | refine Keeps.setCell ?_ _ _ (.inl (by first | rfl | exact .inl rfl | exact .inr rfl | omega)) | refine Keeps.drew ?_))) ?_; simp only [planL, List.getElem?_toArray, List.getElem?_cons_succ, List.getElem?_cons_zero]
    refine plan_pure rfl (fun K hK => quiet_run (v := ?_) (fun W _ => ?_) (hK _ ?_)); rotate_left; (go_simp <;> with_reducible rfl); clear hK K; simp only [nP]
    refine plan_load rfl (fun K hK => quiet_runE (v := ?_) (fun W => ?_) (hK _ ?_)); rotate_left; (go_simp <;> with_reducible rfl); clear hK K; simp only [nP]
    refine plan_nil ?_
    refine any_fork 0 7 (by kernel_rfl) (by kernel_rfl) rfl rfl rfl rfl (fun K hK => ?_) (fun K hK => ?_)
    · skip
      go_wp2_with fail
      refine (kinds_any _).mono ?_
      rintro r w1 ⟨m, rfl, hm, hE1, hm1⟩
      have hE : Ext w0 w1 := hE0.ext hE1
      have hk1 := look_at hm x.kind HI.out true
      have hk2 := look_at (hm.ext ((Keeps.refl NoB w1).alloc (Obj.cells #[.bool false, .bool false, .int .i64 0, .nilFunc] 81))) x.kind HI.out true
      rw [HK.out] at hk1 hk2
      unfold kindU at hk1 hk2
      replace HM := Lib.hid (HM.out.ext hE)
      refine hK _ _ ⟨ClsE.of (by assumption), ?_⟩; clear hK K; try simp only [nP]
      refine any_seg (L := #[true, true, true, false, false, false, false, false, false, false]) [] 7 (by kernel_rfl) (fun _ _ _ d _ h => by cases d <;> exact h) (by kernel_rfl) (by kernel_rfl) rfl rfl (ClsE.of (by repeat (first | assumption | exact Keeps.refl _ _ | refine Keeps.alloc ?_ _ | refine Keeps.setOne ?_ _ _ | refine Keeps.setCell ?_ _ _ (.inl (by first | rfl | exact .inl rfl | exact .inr rfl | omega)) | refine Keeps.drew ?_))) ?_; simp only [planL, List.getElem?_toArray, List.getElem?_cons_succ, List.getElem?_cons_zero]
      refine plan_nil ?_
      refine any_fork 3 7 (by kernel_rfl) (by kernel_rfl) rfl rfl rfl rfl (fun K hK => ?_) (fun K hK => ?_)
      · skip
        go_wp2_with fail
        refine ⟨ClsE.of (by repeat (first | assumption | exact Keeps.refl _ _ | refine Keeps.alloc ?_ _ | refine Keeps.setOne ?_ _ _ | refine Keeps.setCell ?_ _ _ (.inl (by first | rfl | exact .inl rfl | exact .inr rfl | omega)) | refine Keeps.drew ?_)), ?_⟩; try simp only [nP]
        refine any_end [(0, 4), (0, 5), (0, 6), (2, 7)] [8, 9] (by kernel_rfl) (fun _ _ _ d _ h => by cases d <;> exact h) (by kernel_rfl) (by kernel_rfl) rfl rfl (ClsE.of (by repeat (first | assumption | exact Keeps.refl _ _ | refine Keeps.alloc ?_ _ | refine Keeps.setOne ?_ _ _ | refine Keeps.setCell ?_ _ _ (.inl (by first | rfl | exact .inl rfl | exact .inr rfl | omega)) | refine Keeps.drew ?_))) ?_; simp only [planL, List.getElem?_toArray, List.getElem?_cons_succ, List.getElem?_cons_zero]
        refine plan_pure rfl (fun K hK => quiet_move' _ rfl (hK _ ?_)); clear hK K; simp only [nP, nE]
        refine plan_pure rfl (fun K hK => quiet_run (v := ?_) (fun W _ => ?_) (hK _ ?_)); rotate_left; (go_simp <;> with_reducible rfl); clear hK K; simp only [nP]
        refine plan_pure rfl (fun K hK => quiet_run (v := ?_) (fun W _ => ?_) (hK _ ?_)); rotate_left; (go_simp <;> with_reducible rfl); clear hK K; simp only [nP]
        refine plan_does rfl (fun K hK => ?_)
        go_wp2_with fail
        refine ⟨ClsE.of (by repeat (first | assumption | exact Keeps.refl _ _ | refine Keeps.alloc ?_ _ | refine Keeps.setOne ?_ _ _ | refine Keeps.setCell ?_ _ _ (.inl (by first | rfl | exact .inl rfl | exact .inr rfl | omega)) | refine Keeps.drew ?_)), ?_⟩; try simp only [nP]
        refine plan_nil ?_; simp only [tailL, List.filterMap_cons, List.filterMap_nil, List.getElem?_toArray, List.getElem?_cons_succ, List.getElem?_cons_zero]; change wpList _ _ _ (_ :: _ :: []) _ _
        clear hk1 hk2 hm
        clear fM fMHB fLHB
        first | apply Mem.call | apply Mem.postD | apply Mem.stop | apply Mem.toUpd | apply Mem.list | apply Mem.code | apply Mem.post | apply Mem.postM
        · with_reducible repeat first | exact HM.out | exact ph | apply pt | apply Mem.drew | apply Mem.alloc | apply Mem.set | apply Mem.allocO | (simp only [World.size_alloc, World.size_setCell, World.size_drew]; rfl) | rfl
        intro w2 M
        try simp only [List.set_cons_zero, List.set_cons_succ] at M
        replace HM := Lib.hid M
        clear M
        cases pl
        · skip
          by_cases h1 : x.index < least
          · skip
            have fM := HM.out.facts
            simp only [seeS, talkR_tag, enR_tag, judgeR_tag] at fM
            have fMHB := (HB.out.ext HM.out.extTo).reads
            have fLHB := (HB.out.ext HM.out.extTo).lt
            go_wp2_with fail
            all_goals clear fM fMHB fLHB
            go_ret
            refine ⟨?_, ?_⟩
            rotate_left
            · apply Mem.extTo
              with_reducible repeat first | exact HM.out | exact ph | apply pt | apply Mem.drew | apply Mem.alloc | apply Mem.set | apply Mem.allocO | (simp only [World.size_alloc, World.size_setCell, World.size_drew]; rfl) | rfl
            unfold mayE
            rw [HN.out]
            dsimp only
            rw [if_pos (.inl h1)]
            rfl
          cases en
          · skip
            have g3 : ¬ least > x.index := by omega
            by_cases h3 : x.who < 0
            · skip
              have fM := HM.out.facts
              simp only [seeS, talkR_tag, enR_tag, judgeR_tag] at fM
              have fMHB := (HB.out.ext HM.out.extTo).reads
              have fLHB := (HB.out.ext HM.out.extTo).lt
              go_wp2_with fail
              all_goals clear fM fMHB fLHB
              go_ret
              refine ⟨?_, ?_⟩
              rotate_left
              · apply Mem.extTo
                with_reducible repeat first | exact HM.out | exact ph | apply pt | apply Mem.drew | apply Mem.alloc | apply Mem.set | apply Mem.allocO | (simp only [World.size_alloc, World.size_setCell, World.size_drew]; rfl) | rfl
              unfold mayE
              rw [HN.out]
              dsimp only
              rw [if_neg (fun h => by rcases h with h | ⟨h, -⟩; omega; cases h), if_pos (.inl h3)]
              rfl
            by_cases h4 : J.m ≤ x.who
            · have g5 : 0 ≤ x.who := by omega
              have fM := HM.out.facts
              simp only [seeS, talkR_tag, enR_tag, judgeR_tag] at fM
              have fMHB := (HB.out.ext HM.out.extTo).reads
              have fLHB := (HB.out.ext HM.out.extTo).lt
              go_wp2_with fail
              all_goals clear fM fMHB fLHB
              go_ret
              refine ⟨?_, ?_⟩
              rotate_left
              · apply Mem.extTo
                with_reducible repeat first | exact HM.out | exact ph | apply pt | apply Mem.drew | apply Mem.alloc | apply Mem.set | apply Mem.allocO | (simp only [World.size_alloc, World.size_setCell, World.size_drew]; rfl) | rfl
              unfold mayE
              rw [HN.out]
              dsimp only
              rw [if_neg (fun h => by rcases h with h | ⟨h, -⟩; omega; cases h), if_pos (.inr h4)]
              rfl
            · have g5 : 0 ≤ x.who := by omega
              have fM := HM.out.facts
              simp only [seeS, talkR_tag, enR_tag, judgeR_tag] at fM
              have fMHB := (HB.out.ext HM.out.extTo).reads
              have fLHB := (HB.out.ext HM.out.extTo).lt
              go_wp2_with fail
              all_goals clear fM fMHB fLHB
              go_ret
              refine ⟨?_, ?_⟩
              rotate_left
              · apply Mem.extTo
                with_reducible repeat first | exact HM.out | exact ph | apply pt | apply Mem.drew | apply Mem.alloc | apply Mem.set | apply Mem.allocO | (simp only [World.size_alloc, World.size_setCell, World.size_drew]; rfl) | rfl
              unfold mayE
              rw [HN.out]
              dsimp only
              rw [if_neg (fun h => by rcases h with h | ⟨h, -⟩; omega; cases h), if_neg (fun h => by rcases h with h | h <;> ((try simp only [if_true, if_false, Bool.false_eq_true] at h); omega))]
              rfl
          · skip
            by_cases h2 : x.e.kind = 1
            · skip
              have fM := HM.out.facts
              simp only [seeS, talkR_tag, enR_tag, judgeR_tag] at fM
              have fMHB := (HB.out.ext HM.out.extTo).reads
              have fLHB := (HB.out.ext HM.out.extTo).lt
              go_wp2_with fail
              all_goals clear fM fMHB fLHB
              go_ret
              refine ⟨?_, ?_⟩
              rotate_left
              · apply Mem.extTo
                with_reducible repeat first | exact HM.out | exact ph | apply pt | apply Mem.drew | apply Mem.alloc | apply Mem.set | apply Mem.allocO | (simp only [World.size_alloc, World.size_setCell, World.size_drew]; rfl) | rfl
              unfold mayE
              rw [HN.out]
              dsimp only
              rw [if_pos (.inr ⟨rfl, .inl h2⟩)]
              rfl
            · skip
              have H1 := Lib.hid h1
              have H2 := Lib.hid h2
              have fM := HM.out.facts
              simp only [seeS, talkR_tag, enR_tag, judgeR_tag] at fM
              have fMHB := (HB.out.ext HM.out.extTo).reads
              have fLHB := (HB.out.ext HM.out.extTo).lt
              go_wp2_with fail
              all_goals clear fM fMHB fLHB
              first | apply Mem.call | apply Mem.postD | apply Mem.stop | apply Mem.toUpd | apply Mem.list | apply Mem.code | apply Mem.post | apply Mem.postM
              · with_reducible repeat first | exact HM.out | exact ph | apply pt | apply Mem.drew | apply Mem.alloc | apply Mem.set | apply Mem.allocO | (simp only [World.size_alloc, World.size_setCell, World.size_drew]; rfl) | rfl
              intro w3 M
              try simp only [List.set_cons_zero, List.set_cons_succ] at M
              replace HM := Lib.hid M
              clear M
              have hE3 := HM.out.extTo
              refine (right_any w3 x.e HIE.out (fun h w1 h1 => HC.out h w1 (hE3.ext h1))).mono ?_
              rintro r w4 ⟨rfl, hE4⟩
              replace HM := Lib.hid (HM.out.ext hE4)
              clear hE4 hE3 h1 h2
              have h1 : ¬ x.index < least := by have := H1.out; omega
              have h2 := H2.out
              cases hb : enB x.e
              · skip
                have fM := HM.out.facts
                simp only [seeS, talkR_tag, enR_tag, judgeR_tag] at fM
                have fMHB := (HB.out.ext HM.out.extTo).reads
                have fLHB := (HB.out.ext HM.out.extTo).lt
                go_wp2_with fail
                all_goals clear fM fMHB fLHB
                go_ret
                refine ⟨?_, ?_⟩
                rotate_left
                · apply Mem.extTo
                  with_reducible repeat first | exact HM.out | exact ph | apply pt | apply Mem.drew | apply Mem.alloc | apply Mem.set | apply Mem.allocO | (simp only [World.size_alloc, World.size_setCell, World.size_drew]; rfl) | rfl
                unfold mayE
                rw [HN.out]
                dsimp only
                rw [if_pos (.inr ⟨rfl, .inr hb⟩)]
                rfl
              · skip
                have HBB := Lib.hid hb
                clear hb
                have g3 : ¬ least > x.index := by omega
                by_cases h3 : x.who < 0
                · skip
                  have fM := HM.out.facts
                  simp only [seeS, talkR_tag, enR_tag, judgeR_tag] at fM
                  have fMHB := (HB.out.ext HM.out.extTo).reads
                  have fLHB := (HB.out.ext HM.out.extTo).lt
                  go_wp2_with fail
                  all_goals clear fM fMHB fLHB
                  go_ret
                  refine ⟨?_, ?_⟩
                  rotate_left
                  · apply Mem.extTo
                    with_reducible repeat first | exact HM.out | exact ph | apply pt | apply Mem.drew | apply Mem.alloc | apply Mem.set | apply Mem.allocO | (simp only [World.size_alloc, World.size_setCell, World.size_drew]; rfl) | rfl
                  unfold mayE
                  rw [HN.out]
                  dsimp only
                  rw [if_neg (fun h => by rcases h with h | ⟨-, h | h⟩; omega; exact H2.out h; rw [HBB.out] at h; cases h), if_pos (.inl h3)]
                  rfl
                by_cases h4 : J.m ≤ x.who
                · have g5 : 0 ≤ x.who := by omega
                  have fM := HM.out.facts
                  simp only [seeS, talkR_tag, enR_tag, judgeR_tag] at fM
                  have fMHB := (HB.out.ext HM.out.extTo).reads
                  have fLHB := (HB.out.ext HM.out.extTo).lt
                  go_wp2_with fail
                  all_goals clear fM fMHB fLHB
                  go_ret
                  refine ⟨?_, ?_⟩
                  rotate_left
                  · apply Mem.extTo
                    with_reducible repeat first | exact HM.out | exact ph | apply pt | apply Mem.drew | apply Mem.alloc | apply Mem.set | apply Mem.allocO | (simp only [World.size_alloc, World.size_setCell, World.size_drew]; rfl) | rfl
                  unfold mayE
                  rw [HN.out]
                  dsimp only
                  rw [if_neg (fun h => by rcases h with h | ⟨-, h | h⟩; omega; exact H2.out h; rw [HBB.out] at h; cases h), if_pos (.inr h4)]
                  rfl
                · have g5 : 0 ≤ x.who := by omega
                  have fM := HM.out.facts
                  simp only [seeS, talkR_tag, enR_tag, judgeR_tag] at fM
                  have fMHB := (HB.out.ext HM.out.extTo).reads
                  have fLHB := (HB.out.ext HM.out.extTo).lt
                  go_wp2_with fail
                  all_goals clear fM fMHB fLHB
                  go_ret
                  refine ⟨?_, ?_⟩
                  rotate_left
                  · apply Mem.extTo
                    with_reducible repeat first | exact HM.out | exact ph | apply pt | apply Mem.drew | apply Mem.alloc | apply Mem.set | apply Mem.allocO | (simp only [World.size_alloc, World.size_setCell, World.size_drew]; rfl) | rfl
                  unfold mayE
                  rw [HN.out]
                  dsimp only
                  rw [if_neg (fun h => by rcases h with h | ⟨-, h | h⟩; omega; exact H2.out h; rw [HBB.out] at h; cases h), if_neg (fun h => by rcases h with h | h <;> ((try simp only [if_true, if_false, Bool.false_eq_true] at h); omega))]
                  rfl
        · skip
          by_cases h1 : x.index < least
          · skip
            have fM := HM.out.facts
            simp only [seeS, talkR_tag, enR_tag, judgeR_tag] at fM
            have fMHB := (HB.out.ext HM.out.extTo).reads
            have fLHB := (HB.out.ext HM.out.extTo).lt
            go_wp2_with fail
            all_goals clear fM fMHB fLHB
            go_ret
            refine ⟨?_, ?_⟩
            rotate_left
            · apply Mem.extTo
              with_reducible repeat first | exact HM.out | exact ph | apply pt | apply Mem.drew | apply Mem.alloc | apply Mem.set | apply Mem.allocO | (simp only [World.size_alloc, World.size_setCell, World.size_drew]; rfl) | rfl
            unfold mayE
            rw [HN.out]
            dsimp only
            rw [if_pos (.inl h1)]
            rfl
          cases en
          · skip
            have g3 : ¬ least > x.index := by omega
            by_cases h3 : x.who < 0
            · skip
              have fM := HM.out.facts
              simp only [seeS, talkR_tag, enR_tag, judgeR_tag] at fM
              have fMHB := (HB.out.ext HM.out.extTo).reads
              have fLHB := (HB.out.ext HM.out.extTo).lt
              go_wp2_with fail
              all_goals clear fM fMHB fLHB
              go_ret
              refine ⟨?_, ?_⟩
              rotate_left
              · apply Mem.extTo
                with_reducible repeat first | exact HM.out | exact ph | apply pt | apply Mem.drew | apply Mem.alloc | apply Mem.set | apply Mem.allocO | (simp only [World.size_alloc, World.size_setCell, World.size_drew]; rfl) | rfl
              unfold mayE
              rw [HN.out]
              dsimp only
              rw [if_neg (fun h => by rcases h with h | ⟨h, -⟩; omega; cases h), if_pos (.inl h3)]
              rfl
            by_cases h4 : J.n ≤ x.who
            · have g5 : 0 ≤ x.who := by omega
              have fM := HM.out.facts
              simp only [seeS, talkR_tag, enR_tag, judgeR_tag] at fM
              have fMHB := (HB.out.ext HM.out.extTo).reads
              have fLHB := (HB.out.ext HM.out.extTo).lt
              go_wp2_with fail
              all_goals clear fM fMHB fLHB
              go_ret
              refine ⟨?_, ?_⟩
              rotate_left
              · apply Mem.extTo
                with_reducible repeat first | exact HM.out | exact ph | apply pt | apply Mem.drew | apply Mem.alloc | apply Mem.set | apply Mem.allocO | (simp only [World.size_alloc, World.size_setCell, World.size_drew]; rfl) | rfl
              unfold mayE
              rw [HN.out]
              dsimp only
              rw [if_neg (fun h => by rcases h with h | ⟨h, -⟩; omega; cases h), if_pos (.inr h4)]
              rfl
            · have g5 : 0 ≤ x.who := by omega
              have fM := HM.out.facts
              simp only [seeS, talkR_tag, enR_tag, judgeR_tag] at fM
              have fMHB := (HB.out.ext HM.out.extTo).reads
              have fLHB := (HB.out.ext HM.out.extTo).lt
              go_wp2_with fail
              all_goals clear fM fMHB fLHB
              go_ret
              refine ⟨?_, ?_⟩
              rotate_left
              · apply Mem.extTo
                with_reducible repeat first | exact HM.out | exact ph | apply pt | apply Mem.drew | apply Mem.alloc | apply Mem.set | apply Mem.allocO | (simp only [World.size_alloc, World.size_setCell, World.size_drew]; rfl) | rfl
              unfold mayE
              rw [HN.out]
              dsimp only
              rw [if_neg (fun h => by rcases h with h | ⟨h, -⟩; omega; cases h), if_neg (fun h => by rcases h with h | h <;> ((try simp only [if_true, if_false, Bool.false_eq_true] at h); omega))]
              rfl
          · skip
            by_cases h2 : x.e.kind = 1
            · skip
              have fM := HM.out.facts
              simp only [seeS, talkR_tag, enR_tag, judgeR_tag] at fM
              have fMHB := (HB.out.ext HM.out.extTo).reads
              have fLHB := (HB.out.ext HM.out.extTo).lt
              go_wp2_with fail
              all_goals clear fM fMHB fLHB
              go_ret
              refine ⟨?_, ?_⟩
              rotate_left
              · apply Mem.extTo
                with_reducible repeat first | exact HM.out | exact ph | apply pt | apply Mem.drew | apply Mem.alloc | apply Mem.set | apply Mem.allocO | (simp only [World.size_alloc, World.size_setCell, World.size_drew]; rfl) | rfl
              unfold mayE
              rw [HN.out]
              dsimp only
              rw [if_pos (.inr ⟨rfl, .inl h2⟩)]
              rfl
            · skip
              have H1 := Lib.hid h1
              have H2 := Lib.hid h2
              have fM := HM.out.facts
              simp only [seeS, talkR_tag, enR_tag, judgeR_tag] at fM
              have fMHB := (HB.out.ext HM.out.extTo).reads
              have fLHB := (HB.out.ext HM.out.extTo).lt
              go_wp2_with fail
              all_goals clear fM fMHB fLHB
              first | apply Mem.call | apply Mem.postD | apply Mem.stop | apply Mem.toUpd | apply Mem.list | apply Mem.code | apply Mem.post | apply Mem.postM
              · with_reducible repeat first | exact HM.out | exact ph | apply pt | apply Mem.drew | apply Mem.alloc | apply Mem.set | apply Mem.allocO | (simp only [World.size_alloc, World.size_setCell, World.size_drew]; rfl) | rfl
              intro w3 M
              try simp only [List.set_cons_zero, List.set_cons_succ] at M
              replace HM := Lib.hid M
              clear M
              have hE3 := HM.out.extTo
              refine (right_any w3 x.e HIE.out (fun h w1 h1 => HC.out h w1 (hE3.ext h1))).mono ?_
              rintro r w4 ⟨rfl, hE4⟩
              replace HM := Lib.hid (HM.out.ext hE4)
              clear hE4 hE3 h1 h2
              have h1 : ¬ x.index < least := by have := H1.out; omega
              have h2 := H2.out
              cases hb : enB x.e
              · skip
                have fM := HM.out.facts
                simp only [seeS, talkR_tag, enR_tag, judgeR_tag] at fM
                have fMHB := (HB.out.ext HM.out.extTo).reads
                have fLHB := (HB.out.ext HM.out.extTo).lt
                go_wp2_with fail
                all_goals clear fM fMHB fLHB
                go_ret
                refine ⟨?_, ?_⟩
                rotate_left
                · apply Mem.extTo
                  with_reducible repeat first | exact HM.out | exact ph | apply pt | apply Mem.drew | apply Mem.alloc | apply Mem.set | apply Mem.allocO | (simp only [World.size_alloc, World.size_setCell, World.size_drew]; rfl) | rfl
                unfold mayE
                rw [HN.out]
                dsimp only
                rw [if_pos (.inr ⟨rfl, .inr hb⟩)]
                rfl
              · skip
                have HBB := Lib.hid hb
                clear hb
                have g3 : ¬ least > x.index := by omega
                by_cases h3 : x.who < 0
                · skip
                  have fM := HM.out.facts
                  simp only [seeS, talkR_tag, enR_tag, judgeR_tag] at fM
                  have fMHB := (HB.out.ext HM.out.extTo).reads
                  have fLHB := (HB.out.ext HM.out.extTo).lt
                  go_wp2_with fail
                  all_goals clear fM fMHB fLHB
                  go_ret
                  refine ⟨?_, ?_⟩
                  rotate_left
                  · apply Mem.extTo
                    with_reducible repeat first | exact HM.out | exact ph | apply pt | apply Mem.drew | apply Mem.alloc | apply Mem.set | apply Mem.allocO | (simp only [World.size_alloc, World.size_setCell, World.size_drew]; rfl) | rfl
                  unfold mayE
                  rw [HN.out]
                  dsimp only
                  rw [if_neg (fun h => by rcases h with h | ⟨-, h | h⟩; omega; exact H2.out h; rw [HBB.out] at h; cases h), if_pos (.inl h3)]
                  rfl
                by_cases h4 : J.n ≤ x.who
                · have g5 : 0 ≤ x.who := by omega
                  have fM := HM.out.facts
                  simp only [seeS, talkR_tag, enR_tag, judgeR_tag] at fM
                  have fMHB := (HB.out.ext HM.out.extTo).reads
                  have fLHB := (HB.out.ext HM.out.extTo).lt
                  go_wp2_with fail
                  all_goals clear fM fMHB fLHB
                  go_ret
                  refine ⟨?_, ?_⟩
                  rotate_left
                  · apply Mem.extTo
                    with_reducible repeat first | exact HM.out | exact ph | apply pt | apply Mem.drew | apply Mem.alloc | apply Mem.set | apply Mem.allocO | (simp only [World.size_alloc, World.size_setCell, World.size_drew]; rfl) | rfl
                  unfold mayE
                  rw [HN.out]
                  dsimp only
                  rw [if_neg (fun h => by rcases h with h | ⟨-, h | h⟩; omega; exact H2.out h; rw [HBB.out] at h; cases h), if_pos (.inr h4)]
                  rfl
                · have g5 : 0 ≤ x.who := by omega
                  have fM := HM.out.facts
                  simp only [seeS, talkR_tag, enR_tag, judgeR_tag] at fM
                  have fMHB := (HB.out.ext HM.out.extTo).reads
                  have fLHB := (HB.out.ext HM.out.extTo).lt
                  go_wp2_with fail
                  all_goals clear fM fMHB fLHB
                  go_ret
                  refine ⟨?_, ?_⟩
                  rotate_left
                  · apply Mem.extTo
                    with_reducible repeat first | exact HM.out | exact ph | apply pt | apply Mem.drew | apply Mem.alloc | apply Mem.set | apply Mem.allocO | (simp only [World.size_alloc, World.size_setCell, World.size_drew]; rfl) | rfl
                  unfold mayE
                  rw [HN.out]
                  dsimp only
                  rw [if_neg (fun h => by rcases h with h | ⟨-, h | h⟩; omega; exact H2.out h; rw [HBB.out] at h; cases h), if_neg (fun h => by rcases h with h | h <;> ((try simp only [if_true, if_false, Bool.false_eq_true] at h); omega))]
                  rfl
      · skip
        go_wp2_with fail
        refine ⟨ClsE.of (by repeat (first | assumption | exact Keeps.refl _ _ | refine Keeps.alloc ?_ _ | refine Keeps.setOne ?_ _ _ | refine Keeps.setCell ?_ _ _ (.inl (by first | rfl | exact .inl rfl | exact .inr rfl | omega)) | refine Keeps.drew ?_)), ?_⟩; try simp only [nP]
        refine any_end [(2, 3), (0, 4), (0, 5), (0, 6)] [8, 9] (by kernel_rfl) (fun _ _ _ d _ h => by cases d <;> exact h) (by kernel_rfl) (by kernel_rfl) rfl rfl (ClsE.of (by repeat (first | assumption | exact Keeps.refl _ _ | refine Keeps.alloc ?_ _ | refine Keeps.setOne ?_ _ _ | refine Keeps.setCell ?_ _ _ (.inl (by first | rfl | exact .inl rfl | exact .inr rfl | omega)) | refine Keeps.drew ?_))) ?_; simp only [planL, List.getElem?_toArray, List.getElem?_cons_succ, List.getElem?_cons_zero]
        refine plan_does rfl (fun K hK => ?_)
        go_wp2_with fail
        refine ⟨ClsE.of (by repeat (first | assumption | exact Keeps.refl _ _ | refine Keeps.alloc ?_ _ | refine Keeps.setOne ?_ _ _ | refine Keeps.setCell ?_ _ _ (.inl (by first | rfl | exact .inl rfl | exact .inr rfl | omega)) | refine Keeps.drew ?_)), ?_⟩; try simp only [nP]
        refine plan_pure rfl (fun K hK => quiet_move' _ rfl (hK _ ?_)); clear hK K; simp only [nP, nE]
        refine plan_pure rfl (fun K hK => quiet_run (v := ?_) (fun W _ => ?_) (hK _ ?_)); rotate_left; (go_simp <;> with_reducible rfl); clear hK K; simp only [nP]
        refine plan_pure rfl (fun K hK => quiet_run (v := ?_) (fun W _ => ?_) (hK _ ?_)); rotate_left; (go_simp <;> with_reducible rfl); clear hK K; simp only [nP]
        refine plan_nil ?_; simp only [tailL, List.filterMap_cons, List.filterMap_nil, List.getElem?_toArray, List.getElem?_cons_succ, List.getElem?_cons_zero]; change wpList _ _ _ (_ :: _ :: []) _ _
        clear hk1 hk2 hm
        clear fM fMHB fLHB
        first | apply Mem.call | apply Mem.postD | apply Mem.stop | apply Mem.toUpd | apply Mem.list | apply Mem.code | apply Mem.post | apply Mem.postM
        · with_reducible repeat first | exact HM.out | exact ph | apply pt | apply Mem.drew | apply Mem.alloc | apply Mem.set | apply Mem.allocO | (simp only [World.size_alloc, World.size_setCell, World.size_drew]; rfl) | rfl
        intro w2 M
        try simp only [List.set_cons_zero, List.set_cons_succ] at M
        replace HM := Lib.hid M
        clear M
        cases pl
        · skip
          by_cases h1 : x.index < least
          · skip
            have fM := HM.out.facts
            simp only [seeS, talkR_tag, enR_tag, judgeR_tag] at fM
            have fMHB := (HB.out.ext HM.out.extTo).reads
            have fLHB := (HB.out.ext HM.out.extTo).lt
            go_wp2_with fail
            all_goals clear fM fMHB fLHB
            go_ret
            refine ⟨?_, ?_⟩
            rotate_left
            · apply Mem.extTo
              with_reducible repeat first | exact HM.out | exact ph | apply pt | apply Mem.drew | apply Mem.alloc | apply Mem.set | apply Mem.allocO | (simp only [World.size_alloc, World.size_setCell, World.size_drew]; rfl) | rfl
            unfold mayE
            rw [HN.out]
            dsimp only
            rw [if_pos (.inl h1)]
            rfl
          cases en
          · skip
            have g3 : ¬ least > x.index := by omega
            by_cases h3 : x.who < 0
            · skip
              have fM := HM.out.facts
              simp only [seeS, talkR_tag, enR_tag, judgeR_tag] at fM
              have fMHB := (HB.out.ext HM.out.extTo).reads
              have fLHB := (HB.out.ext HM.out.extTo).lt
              go_wp2_with fail
              all_goals clear fM fMHB fLHB
              go_ret
              refine ⟨?_, ?_⟩
              rotate_left
              · apply Mem.extTo
                with_reducible repeat first | exact HM.out | exact ph | apply pt | apply Mem.drew | apply Mem.alloc | apply Mem.set | apply Mem.allocO | (simp only [World.size_alloc, World.size_setCell, World.size_drew]; rfl) | rfl
              unfold mayE
              rw [HN.out]
              dsimp only
              rw [if_neg (fun h => by rcases h with h | ⟨h, -⟩; omega; cases h), if_pos (.inl h3)]
              rfl
            by_cases h4 : J.m ≤ x.who
            · have g5 : 0 ≤ x.who := by omega
              have fM := HM.out.facts
              simp only [seeS, talkR_tag, enR_tag, judgeR_tag] at fM
              have fMHB := (HB.out.ext HM.out.extTo).reads
              have fLHB := (HB.out.ext HM.out.extTo).lt
              go_wp2_with fail
              all_goals clear fM fMHB fLHB
              go_ret
              refine ⟨?_, ?_⟩
              rotate_left
              · apply Mem.extTo
                with_reducible repeat first | exact HM.out | exact ph | apply pt | apply Mem.drew | apply Mem.alloc | apply Mem.set | apply Mem.allocO | (simp only [World.size_alloc, World.size_setCell, World.size_drew]; rfl) | rfl
              unfold mayE
              rw [HN.out]
              dsimp only
              rw [if_neg (fun h => by rcases h with h | ⟨h, -⟩; omega; cases h), if_pos (.inr h4)]
              rfl
            · have g5 : 0 ≤ x.who := by omega
              have fM := HM.out.facts
              simp only [seeS, talkR_tag, enR_tag, judgeR_tag] at fM
              have fMHB := (HB.out.ext HM.out.extTo).reads
              have fLHB := (HB.out.ext HM.out.extTo).lt
              go_wp2_with fail
              all_goals clear fM fMHB fLHB
              go_ret
              refine ⟨?_, ?_⟩
              rotate_left
              · apply Mem.extTo
                with_reducible repeat first | exact HM.out | exact ph | apply pt | apply Mem.drew | apply Mem.alloc | apply Mem.set | apply Mem.allocO | (simp only [World.size_alloc, World.size_setCell, World.size_drew]; rfl) | rfl
              unfold mayE
              rw [HN.out]
              dsimp only
              rw [if_neg (fun h => by rcases h with h | ⟨h, -⟩; omega; cases h), if_neg (fun h => by rcases h with h | h <;> ((try simp only [if_true, if_false, Bool.false_eq_true] at h); omega))]
              rfl
          · skip
            by_cases h2 : x.e.kind = 1
            · skip
              have fM := HM.out.facts
              simp only [seeS, talkR_tag, enR_tag, judgeR_tag] at fM
              have fMHB := (HB.out.ext HM.out.extTo).reads
              have fLHB := (HB.out.ext HM.out.extTo).lt
              go_wp2_with fail
              all_goals clear fM fMHB fLHB
              go_ret
              refine ⟨?_, ?_⟩
              rotate_left
              · apply Mem.extTo
                with_reducible repeat first | exact HM.out | exact ph | apply pt | apply Mem.drew | apply Mem.alloc | apply Mem.set | apply Mem.allocO | (simp only [World.size_alloc, World.size_setCell, World.size_drew]; rfl) | rfl
              unfold mayE
              rw [HN.out]
              dsimp only
              rw [if_pos (.inr ⟨rfl, .inl h2⟩)]
              rfl
            · skip
              have H1 := Lib.hid h1
              have H2 := Lib.hid h2
              have fM := HM.out.facts
              simp only [seeS, talkR_tag, enR_tag, judgeR_tag] at fM
              have fMHB := (HB.out.ext HM.out.extTo).reads
              have fLHB := (HB.out.ext HM.out.extTo).lt
              go_wp2_with fail
              all_goals clear fM fMHB fLHB
              first | apply Mem.call | apply Mem.postD | apply Mem.stop | apply Mem.toUpd | apply Mem.list | apply Mem.code | apply Mem.post | apply Mem.postM
              · with_reducible repeat first | exact HM.out | exact ph | apply pt | apply Mem.drew | apply Mem.alloc | apply Mem.set | apply Mem.allocO | (simp only [World.size_alloc, World.size_setCell, World.size_drew]; rfl) | rfl
              intro w3 M
              try simp only [List.set_cons_zero, List.set_cons_succ] at M
              replace HM := Lib.hid M
              clear M
              have hE3 := HM.out.extTo
              refine (right_any w3 x.e HIE.out (fun h w1 h1 => HC.out h w1 (hE3.ext h1))).mono ?_
              rintro r w4 ⟨rfl, hE4⟩
              replace HM := Lib.hid (HM.out.ext hE4)
              clear hE4 hE3 h1 h2
              have h1 : ¬ x.index < least := by have := H1.out; omega
              have h2 := H2.out
              cases hb : enB x.e
              · skip
                have fM := HM.out.facts
                simp only [seeS, talkR_tag, enR_tag, judgeR_tag] at fM
                have fMHB := (HB.out.ext HM.out.extTo).reads
                have fLHB := (HB.out.ext HM.out.extTo).lt
                go_wp2_with fail
                all_goals clear fM fMHB fLHB
                go_ret
                refine ⟨?_, ?_⟩
                rotate_left
                · apply Mem.extTo
                  with_reducible repeat first | exact HM.out | exact ph | apply pt | apply Mem.drew | apply Mem.alloc | apply Mem.set | apply Mem.allocO | (simp only [World.size_alloc, World.size_setCell, World.size_drew]; rfl) | rfl
                unfold mayE
                rw [HN.out]
                dsimp only
                rw [if_pos (.inr ⟨rfl, .inr hb⟩)]
                rfl
              · skip
                have HBB := Lib.hid hb
                clear hb
                have g3 : ¬ least > x.index := by omega
                by_cases h3 : x.who < 0
                · skip
                  have fM := HM.out.facts
                  simp only [seeS, talkR_tag, enR_tag, judgeR_tag] at fM
                  have fMHB := (HB.out.ext HM.out.extTo).reads
                  have fLHB := (HB.out.ext HM.out.extTo).lt
                  go_wp2_with fail
                  all_goals clear fM fMHB fLHB
                  go_ret
                  refine ⟨?_, ?_⟩
                  rotate_left
                  · apply Mem.extTo
                    with_reducible repeat first | exact HM.out | exact ph | apply pt | apply Mem.drew | apply Mem.alloc | apply Mem.set | apply Mem.allocO | (simp only [World.size_alloc, World.size_setCell, World.size_drew]; rfl) | rfl
                  unfold mayE
                  rw [HN.out]
                  dsimp only
                  rw [if_neg (fun h => by rcases h with h | ⟨-, h | h⟩; omega; exact H2.out h; rw [HBB.out] at h; cases h), if_pos (.inl h3)]
                  rfl
                by_cases h4 : J.m ≤ x.who
                · have g5 : 0 ≤ x.who := by omega
                  have fM := HM.out.facts
                  simp only [seeS, talkR_tag, enR_tag, judgeR_tag] at fM
                  have fMHB := (HB.out.ext HM.out.extTo).reads
                  have fLHB := (HB.out.ext HM.out.extTo).lt
                  go_wp2_with fail
                  all_goals clear fM fMHB fLHB
                  go_ret
                  refine ⟨?_, ?_⟩
                  rotate_left
                  · apply Mem.extTo
                    with_reducible repeat first | exact HM.out | exact ph | apply pt | apply Mem.drew | apply Mem.alloc | apply Mem.set | apply Mem.allocO | (simp only [World.size_alloc, World.size_setCell, World.size_drew]; rfl) | rfl
                  unfold mayE
                  rw [HN.out]
                  dsimp only
                  rw [if_neg (fun h => by rcases h with h | ⟨-, h | h⟩; omega; exact H2.out h; rw [HBB.out] at h; cases h), if_pos (.inr h4)]
                  rfl
                · have g5 : 0 ≤ x.who := by omega
                  have fM := HM.out.facts
                  simp only [seeS, talkR_tag, enR_tag, judgeR_tag] at fM
                  have fMHB := (HB.out.ext HM.out.extTo).reads
                  have fLHB := (HB.out.ext HM.out.extTo).lt
                  go_wp2_with fail
                  all_goals clear fM fMHB fLHB
                  go_ret
                  refine ⟨?_, ?_⟩
                  rotate_left
                  · apply Mem.extTo
                    with_reducible repeat first | exact HM.out | exact ph | apply pt | apply Mem.drew | apply Mem.alloc | apply Mem.set | apply Mem.allocO | (simp only [World.size_alloc, World.size_setCell, World.size_drew]; rfl) | rfl
                  unfold mayE
                  rw [HN.out]
                  dsimp only
                  rw [if_neg (fun h => by rcases h with h | ⟨-, h | h⟩; omega; exact H2.out h; rw [HBB.out] at h; cases h), if_neg (fun h => by rcases h with h | h <;> ((try simp only [if_true, if_false, Bool.false_eq_true] at h); omega))]
                  rfl
        · skip
          by_cases h1 : x.index < least
          · skip
            have fM := HM.out.facts
            simp only [seeS, talkR_tag, enR_tag, judgeR_tag] at fM
            have fMHB := (HB.out.ext HM.out.extTo).reads
            have fLHB := (HB.out.ext HM.out.extTo).lt
            go_wp2_with fail
            all_goals clear fM fMHB fLHB
            go_ret
            refine ⟨?_, ?_⟩
            rotate_left
            · apply Mem.extTo
              with_reducible repeat first | exact HM.out | exact ph | apply pt | apply Mem.drew | apply Mem.alloc | apply Mem.set | apply Mem.allocO | (simp only [World.size_alloc, World.size_setCell, World.size_drew]; rfl) | rfl
            unfold mayE
            rw [HN.out]
            dsimp only
            rw [if_pos (.inl h1)]
            rfl
          cases en
          · skip
            have g3 : ¬ least > x.index := by omega
            by_cases h3 : x.who < 0
            · skip
              have fM := HM.out.facts
              simp only [seeS, talkR_tag, enR_tag, judgeR_tag] at fM
              have fMHB := (HB.out.ext HM.out.extTo).reads
              have fLHB := (HB.out.ext HM.out.extTo).lt
              go_wp2_with fail
              all_goals clear fM fMHB fLHB
              go_ret
              refine ⟨?_, ?_⟩
              rotate_left
              · apply Mem.extTo
                with_reducible repeat first | exact HM.out | exact ph | apply pt | apply Mem.drew | apply Mem.alloc | apply Mem.set | apply Mem.allocO | (simp only [World.size_alloc, World.size_setCell, World.size_drew]; rfl) | rfl
              unfold mayE
              rw [HN.out]
              dsimp only
              rw [if_neg (fun h => by rcases h with h | ⟨h, -⟩; omega; cases h), if_pos (.inl h3)]
              rfl
            by_cases h4 : J.n ≤ x.who
            · have g5 : 0 ≤ x.who := by omega
              have fM := HM.out.facts
              simp only [seeS, talkR_tag, enR_tag, judgeR_tag] at fM
              have fMHB := (HB.out.ext HM.out.extTo).reads
              have fLHB := (HB.out.ext HM.out.extTo).lt
              go_wp2_with fail
              all_goals clear fM fMHB fLHB
              go_ret
              refine ⟨?_, ?_⟩
              rotate_left
              · apply Mem.extTo
                with_reducible repeat first | exact HM.out | exact ph | apply pt | apply Mem.drew | apply Mem.alloc | apply Mem.set | apply Mem.allocO | (simp only [World.size_alloc, World.size_setCell, World.size_drew]; rfl) | rfl
              unfold mayE
              rw [HN.out]
              dsimp only
              rw [if_neg (fun h => by rcases h with h | ⟨h, -⟩; omega; cases h), if_pos (.inr h4)]
              rfl
            · have g5 : 0 ≤ x.who := by omega
              have fM := HM.out.facts
              simp only [seeS, talkR_tag, enR_tag, judgeR_tag] at fM
              have fMHB := (HB.out.ext HM.out.extTo).reads
              have fLHB := (HB.out.ext HM.out.extTo).lt
              go_wp2_with fail
              all_goals clear fM fMHB fLHB
              go_ret
              refine ⟨?_, ?_⟩
              rotate_left
              · apply Mem.extTo
                with_reducible repeat first | exact HM.out | exact ph | apply pt | apply Mem.drew | apply Mem.alloc | apply Mem.set | apply Mem.allocO | (simp only [World.size_alloc, World.size_setCell, World.size_drew]; rfl) | rfl
              unfold mayE
              rw [HN.out]
              dsimp only
              rw [if_neg (fun h => by rcases h with h | ⟨h, -⟩; omega; cases h), if_neg (fun h => by rcases h with h | h <;> ((try simp only [if_true, if_false, Bool.false_eq_true] at h); omega))]
              rfl
          · skip
            by_cases h2 : x.e.kind = 1
            · skip
              have fM := HM.out.facts
              simp only [seeS, talkR_tag, enR_tag, judgeR_tag] at fM
              have fMHB := (HB.out.ext HM.out.extTo).reads
              have fLHB := (HB.out.ext HM.out.extTo).lt
              go_wp2_with fail
              all_goals clear fM fMHB fLHB
              go_ret
              refine ⟨?_, ?_⟩
              rotate_left
              · apply Mem.extTo
                with_reducible repeat first | exact HM.out | exact ph | apply pt | apply Mem.drew | apply Mem.alloc | apply Mem.set | apply Mem.allocO | (simp only [World.size_alloc, World.size_setCell, World.size_drew]; rfl) | rfl
              unfold mayE
              rw [HN.out]
              dsimp only
              rw [if_pos (.inr ⟨rfl, .inl h2⟩)]
              rfl
            · skip
              have H1 := Lib.hid h1
              have H2 := Lib.hid h2
              have fM := HM.out.facts
              simp only [seeS, talkR_tag, enR_tag, judgeR_tag] at fM
              have fMHB := (HB.out.ext HM.out.extTo).reads
              have fLHB := (HB.out.ext HM.out.extTo).lt
              go_wp2_with fail
              all_goals clear fM fMHB fLHB
              first | apply Mem.call | apply Mem.postD | apply Mem.stop | apply Mem.toUpd | apply Mem.list | apply Mem.code | apply Mem.post | apply Mem.postM
              · with_reducible repeat first | exact HM.out | exact ph | apply pt | apply Mem.drew | apply Mem.alloc | apply Mem.set | apply Mem.allocO | (simp only [World.size_alloc, World.size_setCell, World.size_drew]; rfl) | rfl
              intro w3 M
              try simp only [List.set_cons_zero, List.set_cons_succ] at M
              replace HM := Lib.hid M
              clear M
              have hE3 := HM.out.extTo
              refine (right_any w3 x.e HIE.out (fun h w1 h1 => HC.out h w1 (hE3.ext h1))).mono ?_
              rintro r w4 ⟨rfl, hE4⟩
              replace HM := Lib.hid (HM.out.ext hE4)
              clear hE4 hE3 h1 h2
              have h1 : ¬ x.index < least := by have := H1.out; omega
              have h2 := H2.out
              cases hb : enB x.e
              · skip
                have fM := HM.out.facts
                simp only [seeS, talkR_tag, enR_tag, judgeR_tag] at fM
                have fMHB := (HB.out.ext HM.out.extTo).reads
                have fLHB := (HB.out.ext HM.out.extTo).lt
                go_wp2_with fail
                all_goals clear fM fMHB fLHB
                go_ret
                refine ⟨?_, ?_⟩
                rotate_left
                · apply Mem.extTo
                  with_reducible repeat first | exact HM.out | exact ph | apply pt | apply Mem.drew | apply Mem.alloc | apply Mem.set | apply Mem.allocO | (simp only [World.size_alloc, World.size_setCell, World.size_drew]; rfl) | rfl
                unfold mayE
                rw [HN.out]
                dsimp only
                rw [if_pos (.inr ⟨rfl, .inr hb⟩)]
                rfl
              · skip
                have HBB := Lib.hid hb
                clear hb
                have g3 : ¬ least > x.index := by omega
                by_cases h3 : x.who < 0
                · skip
                  have fM := HM.out.facts
                  simp only [seeS, talkR_tag, enR_tag, judgeR_tag] at fM
                  have fMHB := (HB.out.ext HM.out.extTo).reads
                  have fLHB := (HB.out.ext HM.out.extTo).lt
                  go_wp2_with fail
                  all_goals clear fM fMHB fLHB
                  go_ret
                  refine ⟨?_, ?_⟩
                  rotate_left
                  · apply Mem.extTo
                    with_reducible repeat first | exact HM.out | exact ph | apply pt | apply Mem.drew | apply Mem.alloc | apply Mem.set | apply Mem.allocO | (simp only [World.size_alloc, World.size_setCell, World.size_drew]; rfl) | rfl
                  unfold mayE
                  rw [HN.out]
                  dsimp only
                  rw [if_neg (fun h => by rcases h with h | ⟨-, h | h⟩; omega; exact H2.out h; rw [HBB.out] at h; cases h), if_pos (.inl h3)]
                  rfl
                by_cases h4 : J.n ≤ x.who
                · have g5 : 0 ≤ x.who := by omega
                  have fM := HM.out.facts
                  simp only [seeS, talkR_tag, enR_tag, judgeR_tag] at fM
                  have fMHB := (HB.out.ext HM.out.extTo).reads
                  have fLHB := (HB.out.ext HM.out.extTo).lt
                  go_wp2_with fail
                  all_goals clear fM fMHB fLHB
                  go_ret
                  refine ⟨?_, ?_⟩
                  rotate_left
                  · apply Mem.extTo
                    with_reducible repeat first | exact HM.out | exact ph | apply pt | apply Mem.drew | apply Mem.alloc | apply Mem.set | apply Mem.allocO | (simp only [World.size_alloc, World.size_setCell, World.size_drew]; rfl) | rfl
                  unfold mayE
                  rw [HN.out]
                  dsimp only
                  rw [if_neg (fun h => by rcases h with h | ⟨-, h | h⟩; omega; exact H2.out h; rw [HBB.out] at h; cases h), if_pos (.inr h4)]
                  rfl
                · have g5 : 0 ≤ x.who := by omega
                  have fM := HM.out.facts
                  simp only [seeS, talkR_tag, enR_tag, judgeR_tag] at fM
                  have fMHB := (HB.out.ext HM.out.extTo).reads
                  have fLHB := (HB.out.ext HM.out.extTo).lt
                  go_wp2_with fail
                  all_goals clear fM fMHB fLHB
                  go_ret
                  refine ⟨?_, ?_⟩
                  rotate_left
                  · apply Mem.extTo
                    with_reducible repeat first | exact HM.out | exact ph | apply pt | apply Mem.drew | apply Mem.alloc | apply Mem.set | apply Mem.allocO | (simp only [World.size_alloc, World.size_setCell, World.size_drew]; rfl) | rfl
                  unfold mayE
                  rw [HN.out]
                  dsimp only
                  rw [if_neg (fun h => by rcases h with h | ⟨-, h | h⟩; omega; exact H2.out h; rw [HBB.out] at h; cases h), if_neg (fun h => by rcases h with h | h <;> ((try simp only [if_true, if_false, Bool.false_eq_true] at h); omega))]
                  rfl
    · skip
      go_wp2_with fail
      refine ⟨ClsE.of (by repeat (first | assumption | exact Keeps.refl _ _ | refine Keeps.alloc ?_ _ | refine Keeps.setOne ?_ _ _ | refine Keeps.setCell ?_ _ _ (.inl (by first | rfl | exact .inl rfl | exact .inr rfl | omega)) | refine Keeps.drew ?_)), ?_⟩; try simp only [nP]
      refine any_end [(2, 0), (2, 3), (0, 4), (0, 5), (0, 6)] [8, 9] (by kernel_rfl) (fun _ _ _ d _ h => by cases d <;> exact h) (by kernel_rfl) (by kernel_rfl) rfl rfl (ClsE.of (by repeat (first | assumption | exact Keeps.refl _ _ | refine Keeps.alloc ?_ _ | refine Keeps.setOne ?_ _ _ | refine Keeps.setCell ?_ _ _ (.inl (by first | rfl | exact .inl rfl | exact .inr rfl | omega)) | refine Keeps.drew ?_))) ?_; simp only [planL, List.getElem?_toArray, List.getElem?_cons_succ, List.getElem?_cons_zero]
      refine plan_does rfl (fun K hK => ?_)
      go_wp2_with fail
      refine (kinds_any _).mono ?_
      rintro r w1 ⟨m, rfl, hm, hE1, hm1⟩
      have hE : Ext (w0.alloc (Obj.cells #[.bool false, .bool false, .int .i64 0, .nilFunc] 81)) w1 := (Ext.drew0 _).ext hE1
      have hEE : Ext w0 w1 := ((Keeps.refl NoB w0).alloc _).ext hE
      have hk1 := look_at hm x.kind HI.out true
      rw [HK.out] at hk1
      unfold kindU at hk1
      replace HM := Lib.hid ((Mem.alloc (cs := [.bool false, .bool false, .int .i64 0, .nilFunc]) (t := 81) HM.out rfl).ext hE)
      refine hK _ _ ⟨ClsE.of (by assumption), ?_⟩; clear hK K; try simp only [nP]
      refine plan_does rfl (fun K hK => ?_)
      go_wp2_with fail
      refine ⟨ClsE.of (by repeat (first | assumption | exact Keeps.refl _ _ | refine Keeps.alloc ?_ _ | refine Keeps.setOne ?_ _ _ | refine Keeps.setCell ?_ _ _ (.inl (by first | rfl | exact .inl rfl | exact .inr rfl | omega)) | refine Keeps.drew ?_)), ?_⟩; try simp only [nP]
      refine plan_pure rfl (fun K hK => quiet_move' _ rfl (hK _ ?_)); clear hK K; simp only [nP, nE]
      refine plan_pure rfl (fun K hK => quiet_run (v := ?_) (fun W _ => ?_) (hK _ ?_)); rotate_left; (go_simp <;> with_reducible rfl); clear hK K; simp only [nP]
      refine plan_pure rfl (fun K hK => quiet_run (v := ?_) (fun W _ => ?_) (hK _ ?_)); rotate_left; (go_simp <;> with_reducible rfl); clear hK K; simp only [nP]
      refine plan_nil ?_; simp only [tailL, List.filterMap_cons, List.filterMap_nil, List.getElem?_toArray, List.getElem?_cons_succ, List.getElem?_cons_zero]; change wpList _ _ _ (_ :: _ :: []) _ _
      clear hk1 hm
      clear fM fMHB fLHB
      first | apply Mem.call | apply Mem.postD | apply Mem.stop | apply Mem.toUpd | apply Mem.list | apply Mem.code | apply Mem.post | apply Mem.postM
      · with_reducible repeat first | exact HM.out | exact ph | apply pt | apply Mem.drew | apply Mem.alloc | apply Mem.set | apply Mem.allocO | (simp only [World.size_alloc, World.size_setCell, World.size_drew]; rfl) | rfl
      intro w2 M
      try simp only [List.set_cons_zero, List.set_cons_succ] at M
      replace HM := Lib.hid M
      clear M
      cases pl
      · skip
        by_cases h1 : x.index < least
        · skip
          have fM := HM.out.facts
          simp only [seeS, talkR_tag, enR_tag, judgeR_tag] at fM
          have fMHB := (HB.out.ext HM.out.extTo).reads
          have fLHB := (HB.out.ext HM.out.extTo).lt
          go_wp2_with fail
          all_goals clear fM fMHB fLHB
          go_ret
          refine ⟨?_, ?_⟩
          rotate_left
          · apply Mem.extTo
            with_reducible repeat first | exact HM.out | exact ph | apply pt | apply Mem.drew | apply Mem.alloc | apply Mem.set | apply Mem.allocO | (simp only [World.size_alloc, World.size_setCell, World.size_drew]; rfl) | rfl
          unfold mayE
          rw [HN.out]
          dsimp only
          rw [if_pos (.inl h1)]
          rfl
        cases en
        · skip
          have g3 : ¬ least > x.index := by omega
          by_cases h3 : x.who < 0
          · skip
            have fM := HM.out.facts
            simp only [seeS, talkR_tag, enR_tag, judgeR_tag] at fM
            have fMHB := (HB.out.ext HM.out.extTo).reads
            have fLHB := (HB.out.ext HM.out.extTo).lt
            go_wp2_with fail
            all_goals clear fM fMHB fLHB
            go_ret
            refine ⟨?_, ?_⟩
            rotate_left
            · apply Mem.extTo
              with_reducible repeat first | exact HM.out | exact ph | apply pt | apply Mem.drew | apply Mem.alloc | apply Mem.set | apply Mem.allocO | (simp only [World.size_alloc, World.size_setCell, World.size_drew]; rfl) | rfl
            unfold mayE
            rw [HN.out]
            dsimp only
            rw [if_neg (fun h => by rcases h with h | ⟨h, -⟩; omega; cases h), if_pos (.inl h3)]
            rfl
          by_cases h4 : J.m ≤ x.who
          · have g5 : 0 ≤ x.who := by omega
            have fM := HM.out.facts
            simp only [seeS, talkR_tag, enR_tag, judgeR_tag] at fM
            have fMHB := (HB.out.ext HM.out.extTo).reads
            have fLHB := (HB.out.ext HM.out.extTo).lt
            go_wp2_with fail
            all_goals clear fM fMHB fLHB
            go_ret
            refine ⟨?_, ?_⟩
            rotate_left
            · apply Mem.extTo
              with_reducible repeat first | exact HM.out | exact ph | apply pt | apply Mem.drew | apply Mem.alloc | apply Mem.set | apply Mem.allocO | (simp only [World.size_alloc, World.size_setCell, World.size_drew]; rfl) | rfl
            unfold mayE
            rw [HN.out]
            dsimp only
            rw [if_neg (fun h => by rcases h with h | ⟨h, -⟩; omega; cases h), if_pos (.inr h4)]
            rfl
          · have g5 : 0 ≤ x.who := by omega
            have fM := HM.out.facts
            simp only [seeS, talkR_tag, enR_tag, judgeR_tag] at fM
            have fMHB := (HB.out.ext HM.out.extTo).reads
            have fLHB := (HB.out.ext HM.out.extTo).lt
            go_wp2_with fail
            all_goals clear fM fMHB fLHB
            go_ret
            refine ⟨?_, ?_⟩
            rotate_left
            · apply Mem.extTo
              with_reducible repeat first | exact HM.out | exact ph | apply pt | apply Mem.drew | apply Mem.alloc | apply Mem.set | apply Mem.allocO | (simp only [World.size_alloc, World.size_setCell, World.size_drew]; rfl) | rfl
            unfold mayE
            rw [HN.out]
            dsimp only
            rw [if_neg (fun h => by rcases h with h | ⟨h, -⟩; omega; cases h), if_neg (fun h => by rcases h with h | h <;> ((try simp only [if_true, if_false, Bool.false_eq_true] at h); omega))]
            rfl
        · skip
          by_cases h2 : x.e.kind = 1
          · skip
            have fM := HM.out.facts
            simp only [seeS, talkR_tag, enR_tag, judgeR_tag] at fM
            have fMHB := (HB.out.ext HM.out.extTo).reads
            have fLHB := (HB.out.ext HM.out.extTo).lt
            go_wp2_with fail
            all_goals clear fM fMHB fLHB
            go_ret
            refine ⟨?_, ?_⟩
            rotate_left
            · apply Mem.extTo
              with_reducible repeat first | exact HM.out | exact ph | apply pt | apply Mem.drew | apply Mem.alloc | apply Mem.set | apply Mem.allocO | (simp only [World.size_alloc, World.size_setCell, World.size_drew]; rfl) | rfl
            unfold mayE
            rw [HN.out]
            dsimp only
            rw [if_pos (.inr ⟨rfl, .inl h2⟩)]
            rfl
          · skip
            have H1 := Lib.hid h1
            have H2 := Lib.hid h2
            have fM := HM.out.facts
            simp only [seeS, talkR_tag, enR_tag, judgeR_tag] at fM
            have fMHB := (HB.out.ext HM.out.extTo).reads
            have fLHB := (HB.out.ext HM.out.extTo).lt
            go_wp2_with fail
            all_goals clear fM fMHB fLHB
            first | apply Mem.call | apply Mem.postD | apply Mem.stop | apply Mem.toUpd | apply Mem.list | apply Mem.code | apply Mem.post | apply Mem.postM
            · with_reducible repeat first | exact HM.out | exact ph | apply pt | apply Mem.drew | apply Mem.alloc | apply Mem.set | apply Mem.allocO | (simp only [World.size_alloc, World.size_setCell, World.size_drew]; rfl) | rfl
            intro w3 M
            try simp only [List.set_cons_zero, List.set_cons_succ] at M
            replace HM := Lib.hid M
            clear M
            have hE3 := HM.out.extTo
            refine (right_any w3 x.e HIE.out (fun h w1 h1 => HC.out h w1 (hE3.ext h1))).mono ?_
            rintro r w4 ⟨rfl, hE4⟩
            replace HM := Lib.hid (HM.out.ext hE4)
            clear hE4 hE3 h1 h2
            have h1 : ¬ x.index < least := by have := H1.out; omega
            have h2 := H2.out
            cases hb : enB x.e
            · skip
              have fM := HM.out.facts
              simp only [seeS, talkR_tag, enR_tag, judgeR_tag] at fM
              have fMHB := (HB.out.ext HM.out.extTo).reads
              have fLHB := (HB.out.ext HM.out.extTo).lt
              go_wp2_with fail
              all_goals clear fM fMHB fLHB
              go_ret
              refine ⟨?_, ?_⟩
              rotate_left
              · apply Mem.extTo
                with_reducible repeat first | exact HM.out | exact ph | apply pt | apply Mem.drew | apply Mem.alloc | apply Mem.set | apply Mem.allocO | (simp only [World.size_alloc, World.size_setCell, World.size_drew]; rfl) | rfl
              unfold mayE
              rw [HN.out]
              dsimp only
              rw [if_pos (.inr ⟨rfl, .inr hb⟩)]
              rfl
            · skip
              have HBB := Lib.hid hb
              clear hb
              have g3 : ¬ least > x.index := by omega
              by_cases h3 : x.who < 0
              · skip
                have fM := HM.out.facts
                simp only [seeS, talkR_tag, enR_tag, judgeR_tag] at fM
                have fMHB := (HB.out.ext HM.out.extTo).reads
                have fLHB := (HB.out.ext HM.out.extTo).lt
                go_wp2_with fail
                all_goals clear fM fMHB fLHB
                go_ret
                refine ⟨?_, ?_⟩
                rotate_left
                · apply Mem.extTo
                  with_reducible repeat first | exact HM.out | exact ph | apply pt | apply Mem.drew | apply Mem.alloc | apply Mem.set | apply Mem.allocO | (simp only [World.size_alloc, World.size_setCell, World.size_drew]; rfl) | rfl
                unfold mayE
                rw [HN.out]
                dsimp only
                rw [if_neg (fun h => by rcases h with h | ⟨-, h | h⟩; omega; exact H2.out h; rw [HBB.out] at h; cases h), if_pos (.inl h3)]
                rfl
              by_cases h4 : J.m ≤ x.who
              · have g5 : 0 ≤ x.who := by omega
                have fM := HM.out.facts
                simp only [seeS, talkR_tag, enR_tag, judgeR_tag] at fM
                have fMHB := (HB.out.ext HM.out.extTo).reads
                have fLHB := (HB.out.ext HM.out.extTo).lt
                go_wp2_with fail
                all_goals clear fM fMHB fLHB
                go_ret
                refine ⟨?_, ?_⟩
                rotate_left
                · apply Mem.extTo
                  with_reducible repeat first | exact HM.out | exact ph | apply pt | apply Mem.drew | apply Mem.alloc | apply Mem.set | apply Mem.allocO | (simp only [World.size_alloc, World.size_setCell, World.size_drew]; rfl) | rfl
                unfold mayE
                rw [HN.out]
                dsimp only
                rw [if_neg (fun h => by rcases h with h | ⟨-, h | h⟩; omega; exact H2.out h; rw [HBB.out] at h; cases h), if_pos (.inr h4)]
                rfl
              · have g5 : 0 ≤ x.who := by omega
                have fM := HM.out.facts
                simp only [seeS, talkR_tag, enR_tag, judgeR_tag] at fM
                have fMHB := (HB.out.ext HM.out.extTo).reads
                have fLHB := (HB.out.ext HM.out.extTo).lt
                go_wp2_with fail
                all_goals clear fM fMHB fLHB
                go_ret
                refine ⟨?_, ?_⟩
                rotate_left
                · apply Mem.extTo
                  with_reducible repeat first | exact HM.out | exact ph | apply pt | apply Mem.drew | apply Mem.alloc | apply Mem.set | apply Mem.allocO | (simp only [World.size_alloc, World.size_setCell, World.size_drew]; rfl) | rfl
                unfold mayE
                rw [HN.out]
                dsimp only
                rw [if_neg (fun h => by rcases h with h | ⟨-, h | h⟩; omega; exact H2.out h; rw [HBB.out] at h; cases h), if_neg (fun h => by rcases h with h | h <;> ((try simp only [if_true, if_false, Bool.false_eq_true] at h); omega))]
                rfl
      · skip
        by_cases h1 : x.index < least
        · skip
          have fM := HM.out.facts
          simp only [seeS, talkR_tag, enR_tag, judgeR_tag] at fM
          have fMHB := (HB.out.ext HM.out.extTo).reads
          have fLHB := (HB.out.ext HM.out.extTo).lt
          go_wp2_with fail
          all_goals clear fM fMHB fLHB
          go_ret
          refine ⟨?_, ?_⟩
          rotate_left
          · apply Mem.extTo
            with_reducible repeat first | exact HM.out | exact ph | apply pt | apply Mem.drew | apply Mem.alloc | apply Mem.set | apply Mem.allocO | (simp only [World.size_alloc, World.size_setCell, World.size_drew]; rfl) | rfl
          unfold mayE
          rw [HN.out]
          dsimp only
          rw [if_pos (.inl h1)]
          rfl
        cases en
        · skip
          have g3 : ¬ least > x.index := by omega
          by_cases h3 : x.who < 0
          · skip
            have fM := HM.out.facts
            simp only [seeS, talkR_tag, enR_tag, judgeR_tag] at fM
            have fMHB := (HB.out.ext HM.out.extTo).reads
            have fLHB := (HB.out.ext HM.out.extTo).lt
            go_wp2_with fail
            all_goals clear fM fMHB fLHB
            go_ret
            refine ⟨?_, ?_⟩
            rotate_left
            · apply Mem.extTo
              with_reducible repeat first | exact HM.out | exact ph | apply pt | apply Mem.drew | apply Mem.alloc | apply Mem.set | apply Mem.allocO | (simp only [World.size_alloc, World.size_setCell, World.size_drew]; rfl) | rfl
            unfold mayE
            rw [HN.out]
            dsimp only
            rw [if_neg (fun h => by rcases h with h | ⟨h, -⟩; omega; cases h), if_pos (.inl h3)]
            rfl
          by_cases h4 : J.n ≤ x.who
          · have g5 : 0 ≤ x.who := by omega
            have fM := HM.out.facts
            simp only [seeS, talkR_tag, enR_tag, judgeR_tag] at fM
            have fMHB := (HB.out.ext HM.out.extTo).reads
            have fLHB := (HB.out.ext HM.out.extTo).lt
            go_wp2_with fail
            all_goals clear fM fMHB fLHB
            go_ret
            refine ⟨?_, ?_⟩
            rotate_left
            · apply Mem.extTo
              with_reducible repeat first | exact HM.out | exact ph | apply pt | apply Mem.drew | apply Mem.alloc | apply Mem.set | apply Mem.allocO | (simp only [World.size_alloc, World.size_setCell, World.size_drew]; rfl) | rfl
            unfold mayE
            rw [HN.out]
            dsimp only
            rw [if_neg (fun h => by rcases h with h | ⟨h, -⟩; omega; cases h), if_pos (.inr h4)]
            rfl
          · have g5 : 0 ≤ x.who := by omega
            have fM := HM.out.facts
            simp only [seeS, talkR_tag, enR_tag, judgeR_tag] at fM
            have fMHB := (HB.out.ext HM.out.extTo).reads
            have fLHB := (HB.out.ext HM.out.extTo).lt
            go_wp2_with fail
            all_goals clear fM fMHB fLHB
            go_ret
            refine ⟨?_, ?_⟩
            rotate_left
            · apply Mem.extTo
              with_reducible repeat first | exact HM.out | exact ph | apply pt | apply Mem.drew | apply Mem.alloc | apply Mem.set | apply Mem.allocO | (simp only [World.size_alloc, World.size_setCell, World.size_drew]; rfl) | rfl
            unfold mayE
            rw [HN.out]
            dsimp only
            rw [if_neg (fun h => by rcases h with h | ⟨h, -⟩; omega; cases h), if_neg (fun h => by rcases h with h | h <;> ((try simp only [if_true, if_false, Bool.false_eq_true] at h); omega))]
            rfl
        · skip
          by_cases h2 : x.e.kind = 1
          · skip
            have fM := HM.out.facts
            simp only [seeS, talkR_tag, enR_tag, judgeR_tag] at fM
            have fMHB := (HB.out.ext HM.out.extTo).reads
            have fLHB := (HB.out.ext HM.out.extTo).lt
            go_wp2_with fail
            all_goals clear fM fMHB fLHB
            go_ret
            refine ⟨?_, ?_⟩
            rotate_left
            · apply Mem.extTo
              with_reducible repeat first | exact HM.out | exact ph | apply pt | apply Mem.drew | apply Mem.alloc | apply Mem.set | apply Mem.allocO | (simp only [World.size_alloc, World.size_setCell, World.size_drew]; rfl) | rfl
            unfold mayE
            rw [HN.out]
            dsimp only
            rw [if_pos (.inr ⟨rfl, .inl h2⟩)]
            rfl
          · skip
            have H1 := Lib.hid h1
            have H2 := Lib.hid h2
            have fM := HM.out.facts
            simp only [seeS, talkR_tag, enR_tag, judgeR_tag] at fM
            have fMHB := (HB.out.ext HM.out.extTo).reads
            have fLHB := (HB.out.ext HM.out.extTo).lt
            go_wp2_with fail
            all_goals clear fM fMHB fLHB
            first | apply Mem.call | apply Mem.postD | apply Mem.stop | apply Mem.toUpd | apply Mem.list | apply Mem.code | apply Mem.post | apply Mem.postM
            · with_reducible repeat first | exact HM.out | exact ph | apply pt | apply Mem.drew | apply Mem.alloc | apply Mem.set | apply Mem.allocO | (simp only [World.size_alloc, World.size_setCell, World.size_drew]; rfl) | rfl
            intro w3 M
            try simp only [List.set_cons_zero, List.set_cons_succ] at M
            replace HM := Lib.hid M
            clear M
            have hE3 := HM.out.extTo
            refine (right_any w3 x.e HIE.out (fun h w1 h1 => HC.out h w1 (hE3.ext h1))).mono ?_
            rintro r w4 ⟨rfl, hE4⟩
            replace HM := Lib.hid (HM.out.ext hE4)
            clear hE4 hE3 h1 h2
            have h1 : ¬ x.index < least := by have := H1.out; omega
            have h2 := H2.out
            cases hb : enB x.e
            · skip
              have fM := HM.out.facts
              simp only [seeS, talkR_tag, enR_tag, judgeR_tag] at fM
              have fMHB := (HB.out.ext HM.out.extTo).reads
              have fLHB := (HB.out.ext HM.out.extTo).lt
              go_wp2_with fail
              all_goals clear fM fMHB fLHB
              go_ret
              refine ⟨?_, ?_⟩
              rotate_left
              · apply Mem.extTo
                with_reducible repeat first | exact HM.out | exact ph | apply pt | apply Mem.drew | apply Mem.alloc | apply Mem.set | apply Mem.allocO | (simp only [World.size_alloc, World.size_setCell, World.size_drew]; rfl) | rfl
              unfold mayE
              rw [HN.out]
              dsimp only
              rw [if_pos (.inr ⟨rfl, .inr hb⟩)]
              rfl
            · skip
              have HBB := Lib.hid hb
              clear hb
              have g3 : ¬ least > x.index := by omega
              by_cases h3 : x.who < 0
              · skip
                have fM := HM.out.facts
                simp only [seeS, talkR_tag, enR_tag, judgeR_tag] at fM
                have fMHB := (HB.out.ext HM.out.extTo).reads
                have fLHB := (HB.out.ext HM.out.extTo).lt
                go_wp2_with fail
                all_goals clear fM fMHB fLHB
                go_ret
                refine ⟨?_, ?_⟩
                rotate_left
                · apply Mem.extTo
                  with_reducible repeat first | exact HM.out | exact ph | apply pt | apply Mem.drew | apply Mem.alloc | apply Mem.set | apply Mem.allocO | (simp only [World.size_alloc, World.size_setCell, World.size_drew]; rfl) | rfl
                unfold mayE
                rw [HN.out]
                dsimp only
                rw [if_neg (fun h => by rcases h with h | ⟨-, h | h⟩; omega; exact H2.out h; rw [HBB.out] at h; cases h), if_pos (.inl h3)]
                rfl
              by_cases h4 : J.n ≤ x.who
              · have g5 : 0 ≤ x.who := by omega
                have fM := HM.out.facts
                simp only [seeS, talkR_tag, enR_tag, judgeR_tag] at fM
                have fMHB := (HB.out.ext HM.out.extTo).reads
                have fLHB := (HB.out.ext HM.out.extTo).lt
                go_wp2_with fail
                all_goals clear fM fMHB fLHB
                go_ret
                refine ⟨?_, ?_⟩
                rotate_left
                · apply Mem.extTo
                  with_reducible repeat first | exact HM.out | exact ph | apply pt | apply Mem.drew | apply Mem.alloc | apply Mem.set | apply Mem.allocO | (simp only [World.size_alloc, World.size_setCell, World.size_drew]; rfl) | rfl
                unfold mayE
                rw [HN.out]
                dsimp only
                rw [if_neg (fun h => by rcases h with h | ⟨-, h | h⟩; omega; exact H2.out h; rw [HBB.out] at h; cases h), if_pos (.inr h4)]
                rfl
              · have g5 : 0 ≤ x.who := by omega
                have fM := HM.out.facts
                simp only [seeS, talkR_tag, enR_tag, judgeR_tag] at fM
                have fMHB := (HB.out.ext HM.out.extTo).reads
                have fLHB := (HB.out.ext HM.out.extTo).lt
                go_wp2_with fail
                all_goals clear fM fMHB fLHB
                go_ret
                refine ⟨?_, ?_⟩
                rotate_left
                · apply Mem.extTo
                  with_reducible repeat first | exact HM.out | exact ph | apply pt | apply Mem.drew | apply Mem.alloc | apply Mem.set | apply Mem.allocO | (simp only [World.size_alloc, World.size_setCell, World.size_drew]; rfl) | rfl
                unfold mayE
                rw [HN.out]
                dsimp only
                rw [if_neg (fun h => by rcases h with h | ⟨-, h | h⟩; omega; exact H2.out h; rw [HBB.out] at h; cases h), if_neg (fun h => by rcases h with h | h <;> ((try simp only [if_true, if_false, Bool.false_eq_true] at h); omega))]
                rfl
end Go.Proofs.YthhdgjofagdjeaaDoor
end
