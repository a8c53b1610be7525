/- Texts JY, one behind the other. Conditions: as each says. -/
import Derived.Test.YthhdgjofagdjeaaDoorPkF
section
/- What a judge does with a thing seen: a member began. Condition: the judge lies as 'JudgeX' says; the member is one of sixteen. -/
set_option linter.unusedVariables false
set_option linter.unusedSimpArgs false
set_option maxHeartbeats 2000000
set_option maxRecDepth 10000
namespace Go.Proofs.YthhdgjofagdjeaaDoor
open Go.RowKit

def beganR (J : JA) (p : Nat) (index : Int) : JA × Int :=
  if ¬ (J.next.getD p 0 < 0 ∨ J.next.getD p 0 = index) then (J, 403)
  else if ¬ (index ≤ (J.T.l.length : Int) ∧ (¬ J.next.getD p 0 < 0 ∨ index < (J.T.l.length : Int))) then (J, 405)
  else if ¬ (¬ J.next.getD p 0 < 0 ∨ hasB J.T.l index ⟨2, p, 0, []⟩ = true) then (J, 406)
  else ({ J with next := J.next.set p index }, 0)
theorem began_any {F : Nat → Prop} (w : World) (b : Nat) (J : JA) (kind : Int) (p : Nat) (index : Int) (e : En) (h : JudgeX w F b J) (hp : p < 16) (hl : J.T.l.length ≤ 4096) :
    Calls Tryd.prog 51 #[.pointer (some ⟨b, 0, none⟩), (⟨kind, p, index, e⟩ : Sn).v] w fun r w' => r = doneE (beganR J p index).2 ∧ Upd F w w' (judgeR b (beganR J p index).1) := by
  have HLL := Lib.hid hl
  clear hl
  obtain ⟨⟨tb, mb⟩, ⟨l9, l16⟩, M⟩ := (Mem.start (r := judgeR b J) h).openJ
  have HM := Lib.hid M
  clear M h
  obtain ⟨-, h1, c25, c26, c27, c28, c29⟩ := J.at tb mb l9 l16
  obtain ⟨n, hn⟩ : ∃ n, J.next.getD p 0 = n := ⟨_, rfl⟩
  have cp : (J.cells tb mb)[9 + p]? = some (.int .i64 n) := by
    rw [h1 p hp, ← hn, List.getD_eq_getElem?_getD, List.getElem?_eq_getElem (by omega)]; rfl
  have g1 : (p : Int) < 16 := by omega
  have g2 : ¬ (p : Int) < 0 := by omega
  have HP := Lib.hid hp
  have HL := Lib.hid (show _ ∧ _ from ⟨l9, l16⟩)
  have HN := Lib.hid hn
  clear h1 hp l9 l16 hn c25 c26 c27
  unfold Sn.v
  go_enter Tryd.func51, Tryd.ntmps51
  by_cases g0 : n < 0
  · skip
    have fM := HM.out.facts
    simp only [seeS, talkR_tag, enR_tag, judgeR_tag] at fM
    go_wp2_with fail
    all_goals clear fM
    first | apply Mem.call | apply Mem.postD | apply Mem.stop | apply Mem.toUpd | apply Mem.list | apply Mem.code | apply Mem.post | apply Mem.postM
    · with_reducible repeat first | exact HM.out | exact ph | apply pt | apply Mem.drew | apply Mem.alloc | apply Mem.set | apply Mem.allocO | (simp only [World.size_alloc, World.size_setCell, World.size_drew]; rfl) | rfl
    intro w0 M
    try simp only [List.set_cons_zero, List.set_cons_succ] at M
    replace HM := Lib.hid M
    clear M
    have fM := HM.out.facts
    simp only [seeS, talkR_tag, enR_tag, judgeR_tag] at fM
    have hE0 : Keeps NoB w0 w0.drew := (Keeps.refl _ _).drew
    refine wp_region_plan [(0, 0), (0, 1), (3, 2), (0, 3), (0, 4), (0, 5), (0, 6), (3, 7), (0, 8)] [] [] [] (ClsE w0) (by kernel_rfl) (by kernel_rfl) (by kernel_rfl) rfl rfl (ClsE.of hE0) (fun _ _ _ d _ h => by cases d <;> exact h) ?_; simp only [planL, List.getElem?_toArray, List.getElem?_cons_succ, List.getElem?_cons_zero]
    refine plan_pure rfl (fun K hK => quiet_move' _ rfl (hK _ ?_)); clear hK K; simp only [nP, nE]
    refine plan_pure rfl (fun K hK => quiet_run (v := ?_) (fun W _ => ?_) (hK _ ?_)); rotate_left; (go_simp <;> with_reducible rfl); clear hK K; simp only [nP]
    refine plan_exact rfl (fun K hK => quiet_runX (v := ?_) ?_ (hK _ ?_)); rotate_left; (go_simp <;> with_reducible rfl); clear hK K; simp only [nP]
    refine plan_pure rfl (fun K hK => quiet_run (v := ?_) (fun W _ => ?_) (hK _ ?_)); rotate_left; (go_simp <;> with_reducible rfl); clear hK K; simp only [nP]
    refine plan_pure rfl (fun K hK => quiet_run (v := ?_) (fun W _ => ?_) (hK _ ?_)); rotate_left; (go_simp <;> with_reducible rfl); clear hK K; simp only [nP]
    refine plan_pure rfl (fun K hK => quiet_run (v := ?_) (fun W _ => ?_) (hK _ ?_)); rotate_left; (go_simp <;> with_reducible rfl); clear hK K; simp only [nP]
    refine plan_pure rfl (fun K hK => quiet_run (v := ?_) (fun W _ => ?_) (hK _ ?_)); rotate_left; (go_simp <;> with_reducible rfl); clear hK K; simp only [nP]
    refine plan_exact rfl (fun K hK => quiet_runX (v := ?_) ?_ (hK _ ?_)); rotate_left; (go_simp <;> with_reducible rfl); clear hK K; simp only [nP]
    refine plan_pure rfl (fun K hK => quiet_assign' _ rfl (hK _ ?_)); clear hK K; simp only [nP, nE]
    refine plan_nil ?_; simp only [tailL, List.filterMap_nil]
    go_wp2_with fail
    clear fM
    clear hE0
    first | apply Mem.call | apply Mem.postD | apply Mem.stop | apply Mem.toUpd | apply Mem.list | apply Mem.code | apply Mem.post | apply Mem.postM
    · with_reducible repeat first | exact HM.out | exact ph | apply pt | apply Mem.drew | apply Mem.alloc | apply Mem.set | apply Mem.allocO | (simp only [World.size_alloc, World.size_setCell, World.size_drew]; rfl) | rfl
    intro w1 M
    try simp only [List.set_cons_zero, List.set_cons_succ] at M
    replace HM := Lib.hid M
    clear M
    obtain ⟨Ahb, hb⟩ := HM.out.get (r := cellsR w0.heap.size 4 [.bool true]) (by with_reducible repeat first | exact ph | apply pt)
    refine (must_1 w1 _ _ true hb.2).mono ?_
    rintro r wq ⟨rfl, hwq⟩
    rw [hwq]
    clear hwq wq
    replace HM := Lib.hid (HM.out.pick (r := cellsR w0.heap.size 4 [.bool true]) (by with_reducible repeat first | exact ph | apply pt)).drop
    clear hb
    simp only [mustE, if_true]
    go_wp2_with fail
    first | apply Mem.call | apply Mem.postD | apply Mem.stop | apply Mem.toUpd | apply Mem.list | apply Mem.code | apply Mem.post | apply Mem.postM
    · with_reducible repeat first | exact HM.out | exact ph | apply pt | apply Mem.drew | apply Mem.alloc | apply Mem.set | apply Mem.allocO | (simp only [World.size_alloc, World.size_setCell, World.size_drew]; rfl) | rfl
    intro w2 M
    try simp only [List.set_cons_zero, List.set_cons_succ] at M
    replace HM := Lib.hid M
    clear M
    obtain ⟨Aht, ht⟩ := HM.out.get (r := talkR tb J.T) (by with_reducible repeat first | exact ph | apply pt)
    have HT := Lib.hid ht
    clear ht
    have g0b : ¬ 0 ≤ n := by omega
    have fM := HM.out.facts
    simp only [seeS, talkR_tag, enR_tag, judgeR_tag] at fM
    have hE0 : Keeps NoB w2 w2.drew := (Keeps.refl _ _).drew
    refine wp_region_plan [(0, 0), (1, 1), (0, 2), (0, 3), (0, 4), (3, 5), (0, 8), (0, 9), (2, 6), (0, 7), (0, 10), (0, 11), (1, 12), (0, 13), (0, 14), (0, 15), (1, 16), (2, 17), (0, 18), (0, 19)] [1, 12, 16] [6, 17, 20, 21] [20, 21] (ClsE w2) (by kernel_rfl) (by kernel_rfl) (by kernel_rfl) rfl rfl (ClsE.of hE0) (fun _ _ _ d _ h => by cases d <;> exact h) ?_; simp only [planL, List.getElem?_toArray, List.getElem?_cons_succ, List.getElem?_cons_zero]
    refine plan_pure rfl (fun K hK => quiet_run (v := ?_) (fun W _ => ?_) (hK _ ?_)); rotate_left; (go_simp <;> with_reducible rfl); clear hK K; simp only [nP]
    refine plan_load rfl (fun K hK => quiet_runE (v := ?_) (fun W => ?_) (hK _ ?_)); rotate_left; (go_simp <;> with_reducible rfl); clear hK K; simp only [nP]
    refine plan_pure rfl (fun K hK => quiet_move' _ rfl (hK _ ?_)); clear hK K; simp only [nP, nE]
    refine plan_pure rfl (fun K hK => quiet_run (v := ?_) (fun W _ => ?_) (hK _ ?_)); rotate_left; (go_simp <;> with_reducible rfl); clear hK K; simp only [nP]
    refine plan_pure rfl (fun K hK => quiet_run (v := ?_) (fun W _ => ?_) (hK _ ?_)); rotate_left; (go_simp <;> with_reducible rfl); clear hK K; simp only [nP]
    refine plan_exact rfl (fun K hK => quiet_runX (v := ?_) ?_ (hK _ ?_)); rotate_left; (go_simp <;> with_reducible rfl); clear hK K; simp only [nP]
    refine plan_pure rfl (fun K hK => quiet_move' _ rfl (hK _ ?_)); clear hK K; simp only [nP, nE]
    refine plan_pure rfl (fun K hK => quiet_run (v := ?_) (fun W _ => ?_) (hK _ ?_)); rotate_left; (go_simp <;> with_reducible rfl); clear hK K; simp only [nP]
    refine plan_does rfl (fun K hK => ?_)
    go_wp2_with fail
    refine (talk_len _ tb J.T (HT.out.ext hE0)).mono ?_
    rintro r w3 ⟨rfl, rfl⟩
    refine hK _ _ ⟨ClsE.of (by assumption), ?_⟩; clear hK K; try simp only [nP]
    refine plan_pure rfl (fun K hK => quiet_run (v := ?_) (fun W _ => ?_) (hK _ ?_)); rotate_left; (go_simp <;> with_reducible rfl); clear hK K; simp only [nP]
    refine plan_pure rfl (fun K hK => quiet_move' _ rfl (hK _ ?_)); clear hK K; simp only [nP, nE]
    first
    | (refine plan_skip rfl ?_; simp only [nP])
    | (refine plan_pure rfl (fun K hK => quiet_run (v := ?_) (fun W _ => ?_) (hK _ ?_)); rotate_left; (go_simp <;> with_reducible rfl); clear hK K; simp only [nP])
    first
    | (refine plan_skip rfl ?_; simp only [nP])
    | (refine plan_load rfl (fun K hK => quiet_runE (v := ?_) (fun W => ?_) (hK _ ?_)); rotate_left; (go_simp <;> with_reducible rfl); clear hK K; simp only [nP])
    first
    | (refine plan_skip rfl ?_; simp only [nP])
    | (refine plan_pure rfl (fun K hK => quiet_move' _ rfl (hK _ ?_)); clear hK K; simp only [nP, nE])
    first
    | (refine plan_skip rfl ?_; simp only [nP])
    | (refine plan_pure rfl (fun K hK => quiet_run (v := ?_) (fun W _ => ?_) (hK _ ?_)); rotate_left; (go_simp <;> with_reducible rfl); clear hK K; simp only [nP])
    first
    | (refine plan_skip rfl ?_; simp only [nP])
    | (refine plan_pure rfl (fun K hK => quiet_run (v := ?_) (fun W _ => ?_) (hK _ ?_)); rotate_left; (go_simp <;> with_reducible rfl); clear hK K; simp only [nP])
    first
    | (refine plan_skip rfl ?_; simp only [nP])
    | (refine plan_load rfl (fun K hK => quiet_runE (v := ?_) (fun W => ?_) (hK _ ?_)); rotate_left; (go_simp <;> with_reducible rfl); clear hK K; simp only [nP])
    first
    | (refine plan_skip rfl ?_; simp only [nP])
    | (refine plan_does rfl (fun K hK => ?_))
    go_wp2_with fail
    refine (talk_len _ tb J.T (HT.out.ext hE0)).mono ?_
    rintro r w3 ⟨rfl, rfl⟩
    refine hK _ _ ⟨ClsE.of (by assumption), ?_⟩; clear hK K; try simp only [nP]
    first
    | (refine plan_skip rfl ?_; simp only [nP])
    | (refine plan_pure rfl (fun K hK => quiet_run (v := ?_) (fun W _ => ?_) (hK _ ?_)); rotate_left; (go_simp <;> with_reducible rfl); clear hK K; simp only [nP])
    refine plan_pure rfl (fun K hK => quiet_run (v := ?_) (fun W _ => ?_) (hK _ ?_)); rotate_left; (go_simp <;> with_reducible rfl); clear hK K; simp only [nP]
    refine plan_nil ?_; simp only [tailL, List.filterMap_cons, List.filterMap_nil, List.getElem?_toArray, List.getElem?_cons_succ, List.getElem?_cons_zero]; change wpList _ _ _ (_ :: _ :: []) _ _
    go_wp2_with fail
    clear fM
    clear hE0 g0b HT
    first | apply Mem.call | apply Mem.postD | apply Mem.stop | apply Mem.toUpd | apply Mem.list | apply Mem.code | apply Mem.post | apply Mem.postM
    · with_reducible repeat first | exact HM.out | exact ph | apply pt | apply Mem.drew | apply Mem.alloc | apply Mem.set | apply Mem.allocO | (simp only [World.size_alloc, World.size_setCell, World.size_drew]; rfl) | rfl
    intro w3 M
    try simp only [List.set_cons_zero, List.set_cons_succ] at M
    replace HM := Lib.hid M
    clear M
    obtain ⟨Ahb, hb⟩ := HM.out.get (r := cellsR w2.heap.size 4 [.bool (decide (index ≤ (J.T.l.length : Int))), .bool (decide (index < (J.T.l.length : Int)))]) (by with_reducible repeat first | exact ph | apply pt)
    refine (must_2 w3 _ _ _ _ hb.2).mono ?_
    rintro r wq ⟨rfl, hwq⟩
    rw [hwq]
    clear hwq wq
    replace HM := Lib.hid (HM.out.pick (r := cellsR w2.heap.size 4 [.bool (decide (index ≤ (J.T.l.length : Int))), .bool (decide (index < (J.T.l.length : Int)))]) (by with_reducible repeat first | exact ph | apply pt)).drop
    clear hb
    by_cases h2 : index < (J.T.l.length : Int)
    case neg =>
      rw [decide_eq_false h2, Bool.and_false]
      have hq : beganR J p index = (J, 405) := by unfold beganR; rw [HN.out, if_neg (fun h => h (.inl g0)), if_pos (fun h => by rcases h.2 with h | h; exact h g0; exact h2 h)]
      have HQ := Lib.hid hq
      clear hq
      simp only [mustE, Bool.false_eq_true, if_false, errE]
      go_wp2_with fail
      rw [HQ.out]
      exact ⟨rfl, rfl, HM.out.shutJ (J := J) (tb := tb) (mb := mb) HL.out.1 HL.out.2 (by with_reducible repeat first | exact ph | apply pt) (by with_reducible repeat first | exact ph | apply pt) (by with_reducible repeat first | exact ph | apply pt)⟩
    rw [decide_eq_true h2, decide_eq_true (show index ≤ (J.T.l.length : Int) by omega), Bool.and_true]
    simp only [mustE, if_true]
    have H2 := Lib.hid h2
    clear h2
    have g0b : ¬ 0 ≤ n := by omega
    have fM := HM.out.facts
    simp only [seeS, talkR_tag, enR_tag, judgeR_tag] at fM
    go_wp2_with fail
    all_goals clear fM
    first | apply Mem.call | apply Mem.postD | apply Mem.stop | apply Mem.toUpd | apply Mem.list | apply Mem.code | apply Mem.post | apply Mem.postM
    · with_reducible repeat first | exact HM.out | exact ph | apply pt | apply Mem.drew | apply Mem.alloc | apply Mem.set | apply Mem.allocO | (simp only [World.size_alloc, World.size_setCell, World.size_drew]; rfl) | rfl
    intro w4 M
    try simp only [List.set_cons_zero, List.set_cons_succ] at M
    replace HM := Lib.hid M
    clear M
    obtain ⟨A, hA, -⟩ := HM.out.shutJ (b := b) (J := J) (tb := tb) (mb := mb) HL.out.1 HL.out.2 (by with_reducible repeat first | exact ph | apply pt) (by with_reducible repeat first | exact ph | apply pt) (by with_reducible repeat first | exact ph | apply pt)
    refine (has_any w4 b J index ⟨2, p, 0, []⟩ hA HLL.out).mono ?_
    rintro r w5 ⟨rfl, hE5⟩
    replace HM := Lib.hid (HM.out.ext hE5)
    clear hE5 hA A
    have fM := HM.out.facts
    simp only [seeS, talkR_tag, enR_tag, judgeR_tag] at fM
    go_wp2_with fail
    all_goals clear fM
    first | apply Mem.call | apply Mem.postD | apply Mem.stop | apply Mem.toUpd | apply Mem.list | apply Mem.code | apply Mem.post | apply Mem.postM
    · with_reducible repeat first | exact HM.out | exact ph | apply pt | apply Mem.drew | apply Mem.alloc | apply Mem.set | apply Mem.allocO | (simp only [World.size_alloc, World.size_setCell, World.size_drew]; rfl) | rfl
    intro w6 M
    try simp only [List.set_cons_zero, List.set_cons_succ] at M
    replace HM := Lib.hid M
    clear M
    obtain ⟨Ahb, hb⟩ := HM.out.get (r := cellsR w5.heap.size 4 [.bool (hasB J.T.l index ⟨2, p, 0, []⟩)]) (by with_reducible repeat first | exact ph | apply pt)
    refine (must_1 w6 _ _ _ hb.2).mono ?_
    rintro r wq ⟨rfl, hwq⟩
    rw [hwq]
    clear hwq wq
    replace HM := Lib.hid (HM.out.pick (r := cellsR w5.heap.size 4 [.bool (hasB J.T.l index ⟨2, p, 0, []⟩)]) (by with_reducible repeat first | exact ph | apply pt)).drop
    clear hb
    cases hx : hasB J.T.l index ⟨2, p, 0, []⟩
    · have hq : beganR J p index = (J, 406) := by unfold beganR; rw [HN.out, if_neg (fun h => h (.inl g0)), if_neg (fun h => h ⟨by have := H2.out; omega, .inr H2.out⟩), if_pos (fun h => by rcases h with h | h; exact h g0; rw [hx] at h; cases h)]
      have HQ := Lib.hid hq
      clear hq
      simp only [mustE, Bool.false_eq_true, if_false, errE]
      go_wp2_with fail
      rw [HQ.out]
      exact ⟨rfl, rfl, HM.out.shutJ (J := J) (tb := tb) (mb := mb) HL.out.1 HL.out.2 (by with_reducible repeat first | exact ph | apply pt) (by with_reducible repeat first | exact ph | apply pt) (by with_reducible repeat first | exact ph | apply pt)⟩
    simp only [mustE, if_true]
    have hq : beganR J p index = ({ J with next := J.next.set p index }, 0) := by unfold beganR; rw [HN.out, if_neg (fun h => h (.inl g0)), if_neg (fun h => h ⟨by have := H2.out; omega, .inr H2.out⟩), if_neg (fun h => h (.inr hx))]
    have HQ := Lib.hid hq
    clear hx hq
    go_wp2_with fail
    first | apply Mem.call | apply Mem.postD | apply Mem.stop | apply Mem.toUpd | apply Mem.list | apply Mem.code | apply Mem.post | apply Mem.postM
    · with_reducible repeat first | exact HM.out | exact ph | apply pt | apply Mem.drew | apply Mem.alloc | apply Mem.set | apply Mem.allocO | (simp only [World.size_alloc, World.size_setCell, World.size_drew]; rfl) | rfl
    intro w7 M
    try simp only [List.set_cons_zero, List.set_cons_succ] at M
    replace HM := Lib.hid M
    clear M
    have fM := HM.out.facts
    simp only [seeS, talkR_tag, enR_tag, judgeR_tag] at fM
    have hE0 : Keeps (OneB b) w7 w7.drew := (Keeps.refl _ _).drew
    refine wp_region_plan [(0, 0), (0, 1), (3, 2), (0, 3), (3, 4), (0, 5), (0, 6), (0, 7), (0, 8)] [] [9] [9] (ClsK (OneB b) w7) (by kernel_rfl) (by kernel_rfl) (by kernel_rfl) rfl rfl (ClsK.of hE0) (fun _ _ _ d _ h => by cases d <;> exact h) ?_; simp only [planL, List.getElem?_toArray, List.getElem?_cons_succ, List.getElem?_cons_zero]
    refine plan_pure rfl (fun K hK => quiet_move' _ rfl (hK _ ?_)); clear hK K; simp only [nP, nE]
    refine plan_pure rfl (fun K hK => quiet_run (v := ?_) (fun W _ => ?_) (hK _ ?_)); rotate_left; (go_simp <;> with_reducible rfl); clear hK K; simp only [nP]
    refine plan_exact rfl (fun K hK => quiet_runX (v := ?_) ?_ (hK _ ?_)); rotate_left; (go_simp <;> with_reducible rfl); clear hK K; simp only [nP]
    refine plan_pure rfl (fun K hK => quiet_run (v := ?_) (fun W _ => ?_) (hK _ ?_)); rotate_left; (go_simp <;> with_reducible rfl); clear hK K; simp only [nP]
    refine plan_exact rfl (fun K hK => quiet_runX (v := ?_) ?_ (hK _ ?_)); rotate_left; (go_simp <;> with_reducible rfl); clear hK K; simp only [nP]
    refine plan_pure rfl (fun K hK => quiet_run (v := ?_) (fun W _ => ?_) (hK _ ?_)); rotate_left; (go_simp <;> with_reducible rfl); clear hK K; simp only [nP]
    refine plan_pure rfl (fun K hK => quiet_run (v := ?_) (fun W _ => ?_) (hK _ ?_)); rotate_left; (go_simp <;> with_reducible rfl); clear hK K; simp only [nP]
    refine plan_pure rfl (fun K hK => quiet_run (v := ?_) (fun W _ => ?_) (hK _ ?_)); rotate_left; (go_simp <;> with_reducible rfl); clear hK K; simp only [nP]
    refine plan_pure rfl (fun K hK => quiet_run (v := ?_) (fun W _ => ?_) (hK _ ?_)); rotate_left; (go_simp <;> with_reducible rfl); clear hK K; simp only [nP]
    refine plan_nil ?_; simp only [tailL, List.filterMap_cons, List.filterMap_nil, List.getElem?_toArray, List.getElem?_cons_succ, List.getElem?_cons_zero]; change wpList _ _ _ (_ :: []) _ _
    go_wp2_with fail
    clear fM
    clear hE0
    go_end0
    rw [HQ.out]
    refine ⟨rfl, ?_⟩
    first | apply Mem.call | apply Mem.postD | apply Mem.stop | apply Mem.toUpd | apply Mem.list | apply Mem.code | apply Mem.post | apply Mem.postM
    · with_reducible repeat first | exact HM.out | exact ph | apply pt | apply Mem.drew | apply Mem.alloc | apply Mem.set | apply Mem.allocO | (simp only [World.size_alloc, World.size_setCell, World.size_drew]; rfl) | rfl
    intro w8 M
    try simp only [List.set_cons_zero, List.set_cons_succ] at M
    replace HM := Lib.hid M
    clear M
    rw [J.setNext tb mb HL.out.1 HL.out.2 p HP.out] at HM
    exact HM.out.shutJ (J := { J with next := J.next.set p index }) (tb := tb) (mb := mb) HL.out.1 (by simpa using HL.out.2) (by with_reducible repeat first | exact ph | apply pt) (by with_reducible repeat first | exact ph | apply pt) (by with_reducible repeat first | exact ph | apply pt)
  · skip
    have G0 := Lib.hid g0
    have g0b : 0 ≤ n := by omega
    clear g0
    have fM := HM.out.facts
    simp only [seeS, talkR_tag, enR_tag, judgeR_tag] at fM
    go_wp2_with fail
    all_goals clear fM
    first | apply Mem.call | apply Mem.postD | apply Mem.stop | apply Mem.toUpd | apply Mem.list | apply Mem.code | apply Mem.post | apply Mem.postM
    · with_reducible repeat first | exact HM.out | exact ph | apply pt | apply Mem.drew | apply Mem.alloc | apply Mem.set | apply Mem.allocO | (simp only [World.size_alloc, World.size_setCell, World.size_drew]; rfl) | rfl
    intro w0 M
    try simp only [List.set_cons_zero, List.set_cons_succ] at M
    replace HM := Lib.hid M
    clear M
    have fM := HM.out.facts
    simp only [seeS, talkR_tag, enR_tag, judgeR_tag] at fM
    have hE0 : Keeps NoB w0 w0.drew := (Keeps.refl _ _).drew
    refine wp_region_plan [(0, 0), (0, 1), (3, 2), (0, 3), (0, 4), (0, 5), (0, 6), (3, 7), (0, 8)] [] [] [] (ClsE w0) (by kernel_rfl) (by kernel_rfl) (by kernel_rfl) rfl rfl (ClsE.of hE0) (fun _ _ _ d _ h => by cases d <;> exact h) ?_; simp only [planL, List.getElem?_toArray, List.getElem?_cons_succ, List.getElem?_cons_zero]
    refine plan_pure rfl (fun K hK => quiet_move' _ rfl (hK _ ?_)); clear hK K; simp only [nP, nE]
    refine plan_pure rfl (fun K hK => quiet_run (v := ?_) (fun W _ => ?_) (hK _ ?_)); rotate_left; (go_simp <;> with_reducible rfl); clear hK K; simp only [nP]
    refine plan_exact rfl (fun K hK => quiet_runX (v := ?_) ?_ (hK _ ?_)); rotate_left; (go_simp <;> with_reducible rfl); clear hK K; simp only [nP]
    refine plan_pure rfl (fun K hK => quiet_run (v := ?_) (fun W _ => ?_) (hK _ ?_)); rotate_left; (go_simp <;> with_reducible rfl); clear hK K; simp only [nP]
    refine plan_pure rfl (fun K hK => quiet_run (v := ?_) (fun W _ => ?_) (hK _ ?_)); rotate_left; (go_simp <;> with_reducible rfl); clear hK K; simp only [nP]
    refine plan_pure rfl (fun K hK => quiet_run (v := ?_) (fun W _ => ?_) (hK _ ?_)); rotate_left; (go_simp <;> with_reducible rfl); clear hK K; simp only [nP]
    refine plan_pure rfl (fun K hK => quiet_run (v := ?_) (fun W _ => ?_) (hK _ ?_)); rotate_left; (go_simp <;> with_reducible rfl); clear hK K; simp only [nP]
    refine plan_exact rfl (fun K hK => quiet_runX (v := ?_) ?_ (hK _ ?_)); rotate_left; (go_simp <;> with_reducible rfl); clear hK K; simp only [nP]
    refine plan_pure rfl (fun K hK => quiet_assign' _ rfl (hK _ ?_)); clear hK K; simp only [nP, nE]
    refine plan_nil ?_; simp only [tailL, List.filterMap_nil]
    go_wp2_with fail
    clear fM
    clear hE0
    first | apply Mem.call | apply Mem.postD | apply Mem.stop | apply Mem.toUpd | apply Mem.list | apply Mem.code | apply Mem.post | apply Mem.postM
    · with_reducible repeat first | exact HM.out | exact ph | apply pt | apply Mem.drew | apply Mem.alloc | apply Mem.set | apply Mem.allocO | (simp only [World.size_alloc, World.size_setCell, World.size_drew]; rfl) | rfl
    intro w1 M
    try simp only [List.set_cons_zero, List.set_cons_succ] at M
    replace HM := Lib.hid M
    clear M
    rw [show decide (n < 0) = false from decide_eq_false (by omega), Bool.false_or] at HM
    obtain ⟨Ahb, hb⟩ := HM.out.get (r := cellsR w0.heap.size 4 [.bool (n == index)]) (by with_reducible repeat first | exact ph | apply pt)
    refine (must_1 w1 _ _ _ hb.2).mono ?_
    rintro r wq ⟨rfl, hwq⟩
    rw [hwq]
    clear hwq wq
    replace HM := Lib.hid (HM.out.pick (r := cellsR w0.heap.size 4 [.bool (n == index)]) (by with_reducible repeat first | exact ph | apply pt)).drop
    clear hb
    cases hx : n == index
    · have hx' : ¬ n = index := by simpa using hx
      have hq : beganR J p index = (J, 403) := by unfold beganR; rw [HN.out, if_pos (fun h => by rcases h with h | h; omega; exact hx' h)]
      have HQ := Lib.hid hq
      clear hq
      simp only [mustE, Bool.false_eq_true, if_false, errE]
      go_wp2_with fail
      rw [HQ.out]
      exact ⟨rfl, rfl, HM.out.shutJ (J := J) (tb := tb) (mb := mb) HL.out.1 HL.out.2 (by with_reducible repeat first | exact ph | apply pt) (by with_reducible repeat first | exact ph | apply pt) (by with_reducible repeat first | exact ph | apply pt)⟩
    obtain rfl : n = index := by simpa using hx
    clear hx
    simp only [mustE, if_true]
    go_wp2_with fail
    first | apply Mem.call | apply Mem.postD | apply Mem.stop | apply Mem.toUpd | apply Mem.list | apply Mem.code | apply Mem.post | apply Mem.postM
    · with_reducible repeat first | exact HM.out | exact ph | apply pt | apply Mem.drew | apply Mem.alloc | apply Mem.set | apply Mem.allocO | (simp only [World.size_alloc, World.size_setCell, World.size_drew]; rfl) | rfl
    intro w2 M
    try simp only [List.set_cons_zero, List.set_cons_succ] at M
    replace HM := Lib.hid M
    clear M
    obtain ⟨Aht, ht⟩ := HM.out.get (r := talkR tb J.T) (by with_reducible repeat first | exact ph | apply pt)
    have HT := Lib.hid ht
    clear ht
    have fM := HM.out.facts
    simp only [seeS, talkR_tag, enR_tag, judgeR_tag] at fM
    have hE0 : Keeps NoB w2 w2.drew := (Keeps.refl _ _).drew
    refine wp_region_plan [(0, 0), (1, 1), (0, 2), (0, 3), (0, 4), (3, 5), (0, 8), (0, 9), (2, 6), (0, 7), (0, 10), (0, 11), (1, 12), (0, 13), (0, 14), (0, 15), (1, 16), (2, 17), (0, 18), (0, 19)] [1, 12, 16] [6, 17, 20, 21] [20, 21] (ClsE w2) (by kernel_rfl) (by kernel_rfl) (by kernel_rfl) rfl rfl (ClsE.of hE0) (fun _ _ _ d _ h => by cases d <;> exact h) ?_; simp only [planL, List.getElem?_toArray, List.getElem?_cons_succ, List.getElem?_cons_zero]
    refine plan_pure rfl (fun K hK => quiet_run (v := ?_) (fun W _ => ?_) (hK _ ?_)); rotate_left; (go_simp <;> with_reducible rfl); clear hK K; simp only [nP]
    refine plan_load rfl (fun K hK => quiet_runE (v := ?_) (fun W => ?_) (hK _ ?_)); rotate_left; (go_simp <;> with_reducible rfl); clear hK K; simp only [nP]
    refine plan_pure rfl (fun K hK => quiet_move' _ rfl (hK _ ?_)); clear hK K; simp only [nP, nE]
    refine plan_pure rfl (fun K hK => quiet_run (v := ?_) (fun W _ => ?_) (hK _ ?_)); rotate_left; (go_simp <;> with_reducible rfl); clear hK K; simp only [nP]
    refine plan_pure rfl (fun K hK => quiet_run (v := ?_) (fun W _ => ?_) (hK _ ?_)); rotate_left; (go_simp <;> with_reducible rfl); clear hK K; simp only [nP]
    refine plan_exact rfl (fun K hK => quiet_runX (v := ?_) ?_ (hK _ ?_)); rotate_left; (go_simp <;> with_reducible rfl); clear hK K; simp only [nP]
    refine plan_pure rfl (fun K hK => quiet_move' _ rfl (hK _ ?_)); clear hK K; simp only [nP, nE]
    refine plan_pure rfl (fun K hK => quiet_run (v := ?_) (fun W _ => ?_) (hK _ ?_)); rotate_left; (go_simp <;> with_reducible rfl); clear hK K; simp only [nP]
    refine plan_does rfl (fun K hK => ?_)
    go_wp2_with fail
    refine (talk_len _ tb J.T (HT.out.ext hE0)).mono ?_
    rintro r w3 ⟨rfl, rfl⟩
    refine hK _ _ ⟨ClsE.of (by assumption), ?_⟩; clear hK K; try simp only [nP]
    refine plan_pure rfl (fun K hK => quiet_run (v := ?_) (fun W _ => ?_) (hK _ ?_)); rotate_left; (go_simp <;> with_reducible rfl); clear hK K; simp only [nP]
    refine plan_pure rfl (fun K hK => quiet_move' _ rfl (hK _ ?_)); clear hK K; simp only [nP, nE]
    first
    | (refine plan_skip rfl ?_; simp only [nP])
    | (refine plan_pure rfl (fun K hK => quiet_run (v := ?_) (fun W _ => ?_) (hK _ ?_)); rotate_left; (go_simp <;> with_reducible rfl); clear hK K; simp only [nP])
    first
    | (refine plan_skip rfl ?_; simp only [nP])
    | (refine plan_load rfl (fun K hK => quiet_runE (v := ?_) (fun W => ?_) (hK _ ?_)); rotate_left; (go_simp <;> with_reducible rfl); clear hK K; simp only [nP])
    first
    | (refine plan_skip rfl ?_; simp only [nP])
    | (refine plan_pure rfl (fun K hK => quiet_move' _ rfl (hK _ ?_)); clear hK K; simp only [nP, nE])
    first
    | (refine plan_skip rfl ?_; simp only [nP])
    | (refine plan_pure rfl (fun K hK => quiet_run (v := ?_) (fun W _ => ?_) (hK _ ?_)); rotate_left; (go_simp <;> with_reducible rfl); clear hK K; simp only [nP])
    first
    | (refine plan_skip rfl ?_; simp only [nP])
    | (refine plan_pure rfl (fun K hK => quiet_run (v := ?_) (fun W _ => ?_) (hK _ ?_)); rotate_left; (go_simp <;> with_reducible rfl); clear hK K; simp only [nP])
    first
    | (refine plan_skip rfl ?_; simp only [nP])
    | (refine plan_load rfl (fun K hK => quiet_runE (v := ?_) (fun W => ?_) (hK _ ?_)); rotate_left; (go_simp <;> with_reducible rfl); clear hK K; simp only [nP])
    refine plan_skip rfl ?_; simp only [nP]
    first
    | (refine plan_skip rfl ?_; simp only [nP])
    | (refine plan_pure rfl (fun K hK => quiet_run (v := ?_) (fun W _ => ?_) (hK _ ?_)); rotate_left; (go_simp <;> with_reducible rfl); clear hK K; simp only [nP])
    refine plan_pure rfl (fun K hK => quiet_run (v := ?_) (fun W _ => ?_) (hK _ ?_)); rotate_left; (go_simp <;> with_reducible rfl); clear hK K; simp only [nP]
    refine plan_nil ?_; simp only [tailL, List.filterMap_cons, List.filterMap_nil, List.getElem?_toArray, List.getElem?_cons_succ, List.getElem?_cons_zero]; change wpList _ _ _ (_ :: _ :: []) _ _
    go_wp2_with fail
    clear fM
    clear hE0 HT
    first | apply Mem.call | apply Mem.postD | apply Mem.stop | apply Mem.toUpd | apply Mem.list | apply Mem.code | apply Mem.post | apply Mem.postM
    · with_reducible repeat first | exact HM.out | exact ph | apply pt | apply Mem.drew | apply Mem.alloc | apply Mem.set | apply Mem.allocO | (simp only [World.size_alloc, World.size_setCell, World.size_drew]; rfl) | rfl
    intro w3 M
    try simp only [List.set_cons_zero, List.set_cons_succ] at M
    replace HM := Lib.hid M
    clear M
    obtain ⟨Ahb, hb⟩ := HM.out.get (r := cellsR w2.heap.size 4 [.bool (decide (n ≤ (J.T.l.length : Int))), .bool true]) (by with_reducible repeat first | exact ph | apply pt)
    refine (must_2 w3 _ _ _ _ hb.2).mono ?_
    rintro r wq ⟨rfl, hwq⟩
    rw [hwq]
    clear hwq wq
    replace HM := Lib.hid (HM.out.pick (r := cellsR w2.heap.size 4 [.bool (decide (n ≤ (J.T.l.length : Int))), .bool true]) (by with_reducible repeat first | exact ph | apply pt)).drop
    clear hb
    by_cases h2 : n ≤ (J.T.l.length : Int)
    case neg =>
      rw [decide_eq_false h2, Bool.false_and]
      have hq : beganR J p n = (J, 405) := by unfold beganR; rw [HN.out, if_neg (fun h => h (.inr rfl)), if_pos (fun h => h2 h.1)]
      have HQ := Lib.hid hq
      clear hq
      simp only [mustE, Bool.false_eq_true, if_false, errE]
      go_wp2_with fail
      rw [HQ.out]
      exact ⟨rfl, rfl, HM.out.shutJ (J := J) (tb := tb) (mb := mb) HL.out.1 HL.out.2 (by with_reducible repeat first | exact ph | apply pt) (by with_reducible repeat first | exact ph | apply pt) (by with_reducible repeat first | exact ph | apply pt)⟩
    rw [decide_eq_true h2, Bool.and_true]
    simp only [mustE, if_true]
    have hq : beganR J p n = ({ J with next := J.next.set p n }, 0) := by unfold beganR; rw [HN.out, if_neg (fun h => h (.inr rfl)), if_neg (fun h => h ⟨h2, .inl (by omega)⟩), if_neg (fun h => h (.inl (by omega)))]
    have HQ := Lib.hid hq
    clear h2 hq
    have fM := HM.out.facts
    simp only [seeS, talkR_tag, enR_tag, judgeR_tag] at fM
    go_wp2_with fail
    all_goals clear fM
    first | apply Mem.call | apply Mem.postD | apply Mem.stop | apply Mem.toUpd | apply Mem.list | apply Mem.code | apply Mem.post | apply Mem.postM
    · with_reducible repeat first | exact HM.out | exact ph | apply pt | apply Mem.drew | apply Mem.alloc | apply Mem.set | apply Mem.allocO | (simp only [World.size_alloc, World.size_setCell, World.size_drew]; rfl) | rfl
    intro w4 M
    try simp only [List.set_cons_zero, List.set_cons_succ] at M
    replace HM := Lib.hid M
    clear M
    obtain ⟨Ahb, hb⟩ := HM.out.get (r := cellsR w3.heap.size 4 [.bool true]) (by with_reducible repeat first | exact ph | apply pt)
    refine (must_1 w4 _ _ _ hb.2).mono ?_
    rintro r wq ⟨rfl, hwq⟩
    rw [hwq]
    clear hwq wq
    replace HM := Lib.hid (HM.out.pick (r := cellsR w3.heap.size 4 [.bool true]) (by with_reducible repeat first | exact ph | apply pt)).drop
    clear hb
    simp only [mustE, if_true]
    go_wp2_with fail
    first | apply Mem.call | apply Mem.postD | apply Mem.stop | apply Mem.toUpd | apply Mem.list | apply Mem.code | apply Mem.post | apply Mem.postM
    · with_reducible repeat first | exact HM.out | exact ph | apply pt | apply Mem.drew | apply Mem.alloc | apply Mem.set | apply Mem.allocO | (simp only [World.size_alloc, World.size_setCell, World.size_drew]; rfl) | rfl
    intro w7 M
    try simp only [List.set_cons_zero, List.set_cons_succ] at M
    replace HM := Lib.hid M
    clear M
    have fM := HM.out.facts
    simp only [seeS, talkR_tag, enR_tag, judgeR_tag] at fM
    have hE0 : Keeps (OneB b) w7 w7.drew := (Keeps.refl _ _).drew
    refine wp_region_plan [(0, 0), (0, 1), (3, 2), (0, 3), (3, 4), (0, 5), (0, 6), (0, 7), (0, 8)] [] [9] [9] (ClsK (OneB b) w7) (by kernel_rfl) (by kernel_rfl) (by kernel_rfl) rfl rfl (ClsK.of hE0) (fun _ _ _ d _ h => by cases d <;> exact h) ?_; simp only [planL, List.getElem?_toArray, List.getElem?_cons_succ, List.getElem?_cons_zero]
    refine plan_pure rfl (fun K hK => quiet_move' _ rfl (hK _ ?_)); clear hK K; simp only [nP, nE]
    refine plan_pure rfl (fun K hK => quiet_run (v := ?_) (fun W _ => ?_) (hK _ ?_)); rotate_left; (go_simp <;> with_reducible rfl); clear hK K; simp only [nP]
    refine plan_exact rfl (fun K hK => quiet_runX (v := ?_) ?_ (hK _ ?_)); rotate_left; (go_simp <;> with_reducible rfl); clear hK K; simp only [nP]
    refine plan_pure rfl (fun K hK => quiet_run (v := ?_) (fun W _ => ?_) (hK _ ?_)); rotate_left; (go_simp <;> with_reducible rfl); clear hK K; simp only [nP]
    refine plan_exact rfl (fun K hK => quiet_runX (v := ?_) ?_ (hK _ ?_)); rotate_left; (go_simp <;> with_reducible rfl); clear hK K; simp only [nP]
    refine plan_pure rfl (fun K hK => quiet_run (v := ?_) (fun W _ => ?_) (hK _ ?_)); rotate_left; (go_simp <;> with_reducible rfl); clear hK K; simp only [nP]
    refine plan_pure rfl (fun K hK => quiet_run (v := ?_) (fun W _ => ?_) (hK _ ?_)); rotate_left; (go_simp <;> with_reducible rfl); clear hK K; simp only [nP]
    refine plan_pure rfl (fun K hK => quiet_run (v := ?_) (fun W _ => ?_) (hK _ ?_)); rotate_left; (go_simp <;> with_reducible rfl); clear hK K; simp only [nP]
    refine plan_pure rfl (fun K hK => quiet_run (v := ?_) (fun W _ => ?_) (hK _ ?_)); rotate_left; (go_simp <;> with_reducible rfl); clear hK K; simp only [nP]
    refine plan_nil ?_; simp only [tailL, List.filterMap_cons, List.filterMap_nil, List.getElem?_toArray, List.getElem?_cons_succ, List.getElem?_cons_zero]; change wpList _ _ _ (_ :: []) _ _
    go_wp2_with fail
    clear fM
    clear hE0
    go_end0
    rw [HQ.out]
    refine ⟨rfl, ?_⟩
    first | apply Mem.call | apply Mem.postD | apply Mem.stop | apply Mem.toUpd | apply Mem.list | apply Mem.code | apply Mem.post | apply Mem.postM
    · with_reducible repeat first | exact HM.out | exact ph | apply pt | apply Mem.drew | apply Mem.alloc | apply Mem.set | apply Mem.allocO | (simp only [World.size_alloc, World.size_setCell, World.size_drew]; rfl) | rfl
    intro w8 M
    try simp only [List.set_cons_zero, List.set_cons_succ] at M
    replace HM := Lib.hid M
    clear M
    rw [J.setNext tb mb HL.out.1 HL.out.2 p HP.out] at HM
    exact HM.out.shutJ (J := { J with next := J.next.set p n }) (tb := tb) (mb := mb) HL.out.1 (by simpa using HL.out.2) (by with_reducible repeat first | exact ph | apply pt) (by with_reducible repeat first | exact ph | apply pt) (by with_reducible repeat first | exact ph | apply pt)
end Go.Proofs.YthhdgjofagdjeaaDoor
end
