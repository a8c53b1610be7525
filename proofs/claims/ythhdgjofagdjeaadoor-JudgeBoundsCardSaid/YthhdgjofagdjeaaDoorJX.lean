/- What a judge does with a thing seen: a place told a line. Condition: the judge lies as 'JudgeX' says; the place is one of nine; of an entry that says something, that text.Check answers as the document's. -/
import Derived.Test.YthhdgjofagdjeaaDoorJSep
set_option linter.unusedVariables false
set_option linter.unusedSimpArgs false
set_option maxHeartbeats 2000000
set_option maxRecDepth 10000
namespace Go.Proofs.YthhdgjofagdjeaaDoor
open Go.RowKit

def errE (n : Int) : Ending := .panicked [{ v := .iface 22 (.int .i64 n), recovered := false }]
def mustE (x : Bool) (n : Int) : Ending := if x then .returned (.tuple #[]) else errE n
def doneE (n : Int) : Ending := if n = 0 then .returned (.tuple #[]) else errE n
theorem must_1 (w : World) (b : Nat) (n : Int) (x : Bool) (hb : Box w b 4 [.bool x]) : Calls Tryd.prog 45 #[.int .i64 n, .slice (some ⟨b, 0, none⟩) 1 1] w fun e w' => e = mustE x n ∧ w' = w := by
  cases x
  · exact must_bad_1 w b n false true hb rfl
  · exact must_ok_1 w b n true true hb rfl
theorem must_2 (w : World) (b : Nat) (n : Int) (x y : Bool) (hb : Box w b 4 [.bool x, .bool y]) : Calls Tryd.prog 45 #[.int .i64 n, .slice (some ⟨b, 0, none⟩) 2 2] w fun e w' => e = mustE (x && y) n ∧ w' = w := by
  cases h : x && y
  · exact must_bad_2 w b n x y hb h
  · exact must_ok_2 w b n x y hb h
theorem JA.setTold (J : JA) (tb mb : Nat) (h9 : J.told.length = 9) (p : Nat) (hp : p < 9) (n : Int) : (J.cells tb mb).set p (.int .i64 n) = ({ J with told := J.told.set p n } : JA).cells tb mb := by
  unfold JA.cells
  rw [List.set_append_left _ _ (by rw [List.length_map]; omega), List.map_set]
  rfl
theorem JA.setNext (J : JA) (tb mb : Nat) (h9 : J.told.length = 9) (h16 : J.next.length = 16) (p : Nat) (hp : p < 16) (n : Int) : (J.cells tb mb).set (9 + p) (.int .i64 n) = ({ J with next := J.next.set p n } : JA).cells tb mb := by
  have a1 : (J.told.map iV).length = 9 := by rw [List.length_map, h9]
  have a2 : (J.next.map iV).length = 16 := by rw [List.length_map, h16]
  unfold JA.cells
  rw [List.set_append_right _ _ (by omega), a1, show 9 + p - 9 = p by omega, List.set_append_left _ _ (by omega), List.map_set]
  rfl
def lineR (J : JA) (p : Nat) (index : Int) (e : En) : JA × Int :=
  if ¬ index = J.told.getD p 0 then (J, 403)
  else if index < (J.T.l.length : Int) then (if hasB J.T.l index e = true then ({ J with told := J.told.set p (index + 1) }, 0) else (J, 400))
  else if ¬ e ∈ J.put then (J, 401)
  else if J.T.slot < 4096 ∧ (enB e && (countsR J.T e).2) = true then ({ J with T := J.T.put e, told := J.told.set p (index + 1) }, 0) else (J, 402)
theorem line_any {F : Nat → Prop} (w : World) (b : Nat) (J : JA) (kind : Int) (p : Nat) (index : Int) (e : En) (h : JudgeX w F b J) (hp : p < 9) (hi0 : 0 ≤ index) (hi1 : J.told.getD p 0 ≤ J.T.l.length) (hl : J.T.l.length ≤ 4096) (hs0 : 0 ≤ J.T.slot) (ho : OkE e) (hI : I64 e.kind)
    (hC : e.kind = 4 → ∀ w1, Keeps F w w1 → Calls Tryd.prog 65 #[.string (bs e.text)] w1 fun r w' => r = .returned (.int .i64 (chk e.text : Int)) ∧ Ext w1 w') :
    Calls Tryd.prog 46 #[.pointer (some ⟨b, 0, none⟩), (⟨kind, p, index, e⟩ : Sn).v] w fun r w' => r = doneE (lineR J p index e).2 ∧ Upd F w w' (judgeR b (lineR J p index e).1) := by
  obtain ⟨⟨tb, mb⟩, ⟨l9, l16⟩, M⟩ := (Mem.start (r := judgeR b J) h).openJ
  have HM := Lib.hid M
  clear M h
  obtain ⟨h1, -, c25, c26, c27, c28, c29⟩ := J.at tb mb l9 l16
  obtain ⟨n, hn⟩ : ∃ n, J.told.getD p 0 = n := ⟨_, rfl⟩
  have cp : (J.cells tb mb)[p]? = some (.int .i64 n) := by
    rw [h1 p hp, ← hn, List.getD_eq_getElem?_getD, List.getElem?_eq_getElem (by omega)]; rfl
  rw [hn] at hi1
  have g1 : (p : Int) < 9 := by omega
  have g2 : ¬ (p : Int) < 0 := by omega
  have HX := Lib.hid (show _ ∧ _ ∧ _ ∧ _ ∧ _ ∧ _ ∧ _ from ⟨hp, hi0, hi1, hl, hs0, ho, hI⟩)
  have HN := Lib.hid hn
  have HC := Lib.hid hC
  have HL := Lib.hid (show _ ∧ _ from ⟨l9, l16⟩)
  clear h1 hp hi0 hi1 hl hs0 ho hI hC l9 l16 hn c25 c26 c27
  unfold Sn.v
  go_enter Tryd.func46, Tryd.ntmps46
  have fM := HM.out.facts
  simp only [List.filterMap_cons, List.filterMap_nil, cellsR_tag, winR_tag, factsL, apartL, and_true, List.cons_append, List.nil_append, talkR_tag, enR_tag, judgeR_tag] at fM
  go_wp2_with fail
  all_goals clear fM
  first | apply Mem.call | apply Mem.postD | apply Mem.stop | apply Mem.toUpd | apply Mem.list | apply Mem.code
  · repeat (first | with_reducible exact HM.out | with_reducible exact Pick.here | with_reducible apply Pick.there | with_reducible apply Mem.drew | with_reducible apply Mem.alloc | with_reducible apply Mem.set | with_reducible apply Mem.allocO | (simp only [World.size_alloc, World.size_setCell, World.size_drew]; with_reducible rfl) | with_reducible rfl)
  intro w0 M
  try simp only [List.set_cons_zero, List.set_cons_succ] at M
  replace HM := Lib.hid M
  clear M
  have fM := HM.out.facts
  simp only [List.filterMap_cons, List.filterMap_nil, cellsR_tag, winR_tag, factsL, apartL, and_true, List.cons_append, List.nil_append, talkR_tag, enR_tag, judgeR_tag] at fM
  have hE0 : Keeps NoB w0 w0.drew := (Keeps.refl _ _).drew
  refine wp_region_plan [(0, 0), (3, 1), (0, 2), (0, 3), (3, 4), (0, 5), (0, 6), (0, 7), (0, 8), (3, 9), (0, 10)] [] [11, 12] [11, 12] (ClsE w0) (by kernel_rfl) (by kernel_rfl) (by kernel_rfl) rfl rfl (ClsE.of hE0) (fun _ _ _ d _ h => by cases d <;> exact h) ?_; simp only [planL, List.getElem?_toArray, List.getElem?_cons_succ, List.getElem?_cons_zero]
  refine plan_pure rfl (fun K hK => quiet_run (v := ?_) (fun W _ => ?_) (hK _ ?_)); rotate_left; (go_simp <;> with_reducible rfl); clear hK K; simp only [Act.put, List.setIfInBounds_toArray, List.set_cons_zero, List.set_cons_succ]
  refine plan_exact rfl (fun K hK => quiet_runX (v := ?_) ?_ (hK _ ?_)); rotate_left; (go_simp <;> with_reducible rfl); clear hK K; simp only [Act.put, List.setIfInBounds_toArray, List.set_cons_zero, List.set_cons_succ]
  refine plan_pure rfl (fun K hK => quiet_move' _ rfl (hK _ ?_)); clear hK K; simp only [Act.put, Act.eval, Array.getD_eq_getD_getElem?, List.getElem?_toArray, List.getElem?_cons_zero, Option.getD_some, List.setIfInBounds_toArray, List.set_cons_zero, List.set_cons_succ]
  refine plan_pure rfl (fun K hK => quiet_run (v := ?_) (fun W _ => ?_) (hK _ ?_)); rotate_left; (go_simp <;> with_reducible rfl); clear hK K; simp only [Act.put, List.setIfInBounds_toArray, List.set_cons_zero, List.set_cons_succ]
  refine plan_exact rfl (fun K hK => quiet_runX (v := ?_) ?_ (hK _ ?_)); rotate_left; (go_simp <;> with_reducible rfl); clear hK K; simp only [Act.put, List.setIfInBounds_toArray, List.set_cons_zero, List.set_cons_succ]
  refine plan_pure rfl (fun K hK => quiet_run (v := ?_) (fun W _ => ?_) (hK _ ?_)); rotate_left; (go_simp <;> with_reducible rfl); clear hK K; simp only [Act.put, List.setIfInBounds_toArray, List.set_cons_zero, List.set_cons_succ]
  refine plan_pure rfl (fun K hK => quiet_run (v := ?_) (fun W _ => ?_) (hK _ ?_)); rotate_left; (go_simp <;> with_reducible rfl); clear hK K; simp only [Act.put, List.setIfInBounds_toArray, List.set_cons_zero, List.set_cons_succ]
  refine plan_pure rfl (fun K hK => quiet_run (v := ?_) (fun W _ => ?_) (hK _ ?_)); rotate_left; (go_simp <;> with_reducible rfl); clear hK K; simp only [Act.put, List.setIfInBounds_toArray, List.set_cons_zero, List.set_cons_succ]
  refine plan_pure rfl (fun K hK => quiet_run (v := ?_) (fun W _ => ?_) (hK _ ?_)); rotate_left; (go_simp <;> with_reducible rfl); clear hK K; simp only [Act.put, List.setIfInBounds_toArray, List.set_cons_zero, List.set_cons_succ]
  refine plan_exact rfl (fun K hK => quiet_runX (v := ?_) ?_ (hK _ ?_)); rotate_left; (go_simp <;> with_reducible rfl); clear hK K; simp only [Act.put, List.setIfInBounds_toArray, List.set_cons_zero, List.set_cons_succ]
  refine plan_pure rfl (fun K hK => quiet_run (v := ?_) (fun W _ => ?_) (hK _ ?_)); rotate_left; (go_simp <;> with_reducible rfl); clear hK K; simp only [Act.put, List.setIfInBounds_toArray, List.set_cons_zero, List.set_cons_succ]
  refine plan_nil ?_; simp only [tailL, List.filterMap_cons, List.filterMap_nil, List.getElem?_toArray, List.getElem?_cons_succ, List.getElem?_cons_zero]; change wpList _ _ _ (_ :: _ :: []) _ _
  go_wp2_with fail
  clear fM
  first | apply Mem.call | apply Mem.postD | apply Mem.stop | apply Mem.toUpd | apply Mem.list | apply Mem.code
  · repeat (first | with_reducible exact HM.out | with_reducible exact Pick.here | with_reducible apply Pick.there | with_reducible apply Mem.drew | with_reducible apply Mem.alloc | with_reducible apply Mem.set | with_reducible apply Mem.allocO | (simp only [World.size_alloc, World.size_setCell, World.size_drew]; with_reducible rfl) | with_reducible rfl)
  intro w1 M
  try simp only [List.set_cons_zero, List.set_cons_succ] at M
  replace HM := Lib.hid M
  clear M
  obtain ⟨Ahb, hb⟩ := HM.out.get (r := cellsR w0.heap.size 4 [.bool (index == n)]) (by repeat (first | with_reducible exact Pick.here | with_reducible apply Pick.there))
  refine (must_1 w1 _ 403 _ hb.2).mono ?_
  rintro r w' ⟨rfl, rfl⟩
  replace HM := Lib.hid (HM.out.pick (r := cellsR w0.heap.size 4 [.bool (index == n)]) (by repeat (first | with_reducible exact Pick.here | with_reducible apply Pick.there))).drop
  clear hb
  cases hx : index == n
  · simp only [mustE, Bool.false_eq_true, if_false, errE]
    go_wp2_with fail
    have hq : lineR J p index e = (J, 403) := by unfold lineR; rw [if_pos (by rw [HN.out]; simpa using hx)]
    rw [hq]
    exact ⟨rfl, rfl, HM.out.shutJ (J := J) (tb := tb) (mb := mb) HL.out.1 HL.out.2 (by repeat (first | with_reducible exact Pick.here | with_reducible apply Pick.there)) (by repeat (first | with_reducible exact Pick.here | with_reducible apply Pick.there)) (by repeat (first | with_reducible exact Pick.here | with_reducible apply Pick.there))⟩
  obtain rfl : index = n := by simpa using hx
  clear hx
  simp only [mustE, if_true]
  have fM := HM.out.facts
  simp only [List.filterMap_cons, List.filterMap_nil, cellsR_tag, winR_tag, factsL, apartL, and_true, List.cons_append, List.nil_append, talkR_tag, enR_tag, judgeR_tag] at fM
  go_wp2_with fail
  all_goals clear fM
  have e1 : J.told.getD p 0 = index := HN.out
  obtain ⟨hp, hi0, hi1, hl, hs0, ho, hI⟩ := HX.out
  have hww : wrap64 (index + 1) = index + 1 := IntWalk.wrap64_in _ (by omega)
  have HW := Lib.hid hww
  clear hww
  by_cases h2 : index < (J.T.l.length : Int)
  · clear hp hi0 hi1 hs0 ho hI e1
    first | apply Mem.call | apply Mem.postD | apply Mem.stop | apply Mem.toUpd | apply Mem.list | apply Mem.code
    · repeat (first | with_reducible exact HM.out | with_reducible exact Pick.here | with_reducible apply Pick.there | with_reducible apply Mem.drew | with_reducible apply Mem.alloc | with_reducible apply Mem.set | with_reducible apply Mem.allocO | (simp only [World.size_alloc, World.size_setCell, World.size_drew]; with_reducible rfl) | with_reducible rfl)
    intro w2 M
    try simp only [List.set_cons_zero, List.set_cons_succ] at M
    replace HM := Lib.hid M
    clear M
    obtain ⟨Aht, ht⟩ := HM.out.get (r := talkR tb J.T) (by repeat (first | with_reducible exact Pick.here | with_reducible apply Pick.there))
    have HT := Lib.hid ht
    clear ht
    have fM := HM.out.facts
    simp only [List.filterMap_cons, List.filterMap_nil, cellsR_tag, winR_tag, factsL, apartL, and_true, List.cons_append, List.nil_append, talkR_tag, enR_tag, judgeR_tag] at fM
    have hE0 : Keeps NoB w2 w2.drew := (Keeps.refl _ _).drew
    refine wp_region_plan [(0, 0), (1, 1), (0, 2), (0, 3), (0, 4), (3, 5), (2, 6), (0, 7)] [1] [6] [] (ClsE w2) (by kernel_rfl) (by kernel_rfl) (by kernel_rfl) rfl rfl (ClsE.of hE0) (fun _ _ _ d _ h => by cases d <;> exact h) ?_; simp only [planL, List.getElem?_toArray, List.getElem?_cons_succ, List.getElem?_cons_zero]
    refine plan_pure rfl (fun K hK => quiet_run (v := ?_) (fun W _ => ?_) (hK _ ?_)); rotate_left; (go_simp <;> with_reducible rfl); clear hK K; simp only [Act.put, List.setIfInBounds_toArray, List.set_cons_zero, List.set_cons_succ]
    refine plan_load rfl (fun K hK => quiet_runE (v := ?_) (fun W => ?_) (hK _ ?_)); rotate_left; (go_simp <;> with_reducible rfl); clear hK K; simp only [Act.put, List.setIfInBounds_toArray, List.set_cons_zero, List.set_cons_succ]
    refine plan_pure rfl (fun K hK => quiet_move' _ rfl (hK _ ?_)); clear hK K; simp only [Act.put, Act.eval, Array.getD_eq_getD_getElem?, List.getElem?_toArray, List.getElem?_cons_zero, Option.getD_some, List.setIfInBounds_toArray, List.set_cons_zero, List.set_cons_succ]
    refine plan_pure rfl (fun K hK => quiet_run (v := ?_) (fun W _ => ?_) (hK _ ?_)); rotate_left; (go_simp <;> with_reducible rfl); clear hK K; simp only [Act.put, List.setIfInBounds_toArray, List.set_cons_zero, List.set_cons_succ]
    refine plan_pure rfl (fun K hK => quiet_run (v := ?_) (fun W _ => ?_) (hK _ ?_)); rotate_left; (go_simp <;> with_reducible rfl); clear hK K; simp only [Act.put, List.setIfInBounds_toArray, List.set_cons_zero, List.set_cons_succ]
    refine plan_exact rfl (fun K hK => quiet_runX (v := ?_) ?_ (hK _ ?_)); rotate_left; (go_simp <;> with_reducible rfl); clear hK K; simp only [Act.put, List.setIfInBounds_toArray, List.set_cons_zero, List.set_cons_succ]
    refine plan_does rfl (fun K hK => ?_)
    go_wp2_with fail
    refine (talk_len _ tb J.T (HT.out.ext hE0)).mono ?_
    rintro r w3 ⟨rfl, rfl⟩
    refine hK _ _ ⟨ClsE.of (by assumption), ?_⟩; clear hK K; try simp only [Act.put, List.setIfInBounds_toArray, List.set_cons_zero, List.set_cons_succ]
    refine plan_pure rfl (fun K hK => quiet_run (v := ?_) (fun W _ => ?_) (hK _ ?_)); rotate_left; (go_simp <;> with_reducible rfl); clear hK K; simp only [Act.put, List.setIfInBounds_toArray, List.set_cons_zero, List.set_cons_succ]
    refine plan_nil ?_; simp only [tailL, List.filterMap_nil]
    go_wp2_with fail
    clear fM
    clear hE0
    first | apply Mem.call | apply Mem.postD | apply Mem.stop | apply Mem.toUpd | apply Mem.list | apply Mem.code
    · repeat (first | with_reducible exact HM.out | with_reducible exact Pick.here | with_reducible apply Pick.there | with_reducible apply Mem.drew | with_reducible apply Mem.alloc | with_reducible apply Mem.set | with_reducible apply Mem.allocO | (simp only [World.size_alloc, World.size_setCell, World.size_drew]; with_reducible rfl) | with_reducible rfl)
    intro w3 M
    try simp only [List.set_cons_zero, List.set_cons_succ] at M
    replace HM := Lib.hid M
    clear M
    obtain ⟨A, hA, -⟩ := HM.out.shutJ (b := b) (J := J) (tb := tb) (mb := mb) HL.out.1 HL.out.2 (by repeat (first | with_reducible exact Pick.here | with_reducible apply Pick.there)) (by repeat (first | with_reducible exact Pick.here | with_reducible apply Pick.there)) (by repeat (first | with_reducible exact Pick.here | with_reducible apply Pick.there))
    refine (has_any w3 b J index e hA hl).mono ?_
    rintro r w4 ⟨rfl, hE4⟩
    replace HM := Lib.hid (HM.out.ext hE4)
    clear hE4 hl hA A HT
    have fM := HM.out.facts
    simp only [List.filterMap_cons, List.filterMap_nil, cellsR_tag, winR_tag, factsL, apartL, and_true, List.cons_append, List.nil_append, talkR_tag, enR_tag, judgeR_tag] at fM
    go_wp2_with fail
    all_goals clear fM
    first | apply Mem.call | apply Mem.postD | apply Mem.stop | apply Mem.toUpd | apply Mem.list | apply Mem.code
    · repeat (first | with_reducible exact HM.out | with_reducible exact Pick.here | with_reducible apply Pick.there | with_reducible apply Mem.drew | with_reducible apply Mem.alloc | with_reducible apply Mem.set | with_reducible apply Mem.allocO | (simp only [World.size_alloc, World.size_setCell, World.size_drew]; with_reducible rfl) | with_reducible rfl)
    intro w5 M
    try simp only [List.set_cons_zero, List.set_cons_succ] at M
    replace HM := Lib.hid M
    clear M
    obtain ⟨Ahb, hb⟩ := HM.out.get (r := cellsR w4.heap.size 4 [.bool (hasB J.T.l index e)]) (by repeat (first | with_reducible exact Pick.here | with_reducible apply Pick.there))
    refine (must_1 w5 _ 400 _ hb.2).mono ?_
    rintro r w' ⟨rfl, rfl⟩
    replace HM := Lib.hid (HM.out.pick (r := cellsR w4.heap.size 4 [.bool (hasB J.T.l index e)]) (by repeat (first | with_reducible exact Pick.here | with_reducible apply Pick.there))).drop
    clear hb
    cases hx : hasB J.T.l index e
    · simp only [mustE, Bool.false_eq_true, if_false, errE]
      go_wp2_with fail
      have hq : lineR J p index e = (J, 400) := by unfold lineR; rw [if_neg (by simpa using HN.out.symm), if_pos h2, if_neg (by rw [hx]; simp)]
      rw [hq]
      exact ⟨rfl, rfl, HM.out.shutJ (J := J) (tb := tb) (mb := mb) HL.out.1 HL.out.2 (by repeat (first | with_reducible exact Pick.here | with_reducible apply Pick.there)) (by repeat (first | with_reducible exact Pick.here | with_reducible apply Pick.there)) (by repeat (first | with_reducible exact Pick.here | with_reducible apply Pick.there))⟩
    simp only [mustE, if_true]
    have hq : lineR J p index e = ({ J with told := J.told.set p (index + 1) }, 0) := by unfold lineR; rw [if_neg (by simpa using HN.out.symm), if_pos h2, if_pos hx]
    have HQ := Lib.hid hq
    clear h2 hx hq
    go_wp2_with fail
    first | apply Mem.call | apply Mem.postD | apply Mem.stop | apply Mem.toUpd | apply Mem.list | apply Mem.code
    · repeat (first | with_reducible exact HM.out | with_reducible exact Pick.here | with_reducible apply Pick.there | with_reducible apply Mem.drew | with_reducible apply Mem.alloc | with_reducible apply Mem.set | with_reducible apply Mem.allocO | (simp only [World.size_alloc, World.size_setCell, World.size_drew]; with_reducible rfl) | with_reducible rfl)
    intro w6 M
    try simp only [List.set_cons_zero, List.set_cons_succ] at M
    replace HM := Lib.hid M
    clear M
    have fM := HM.out.facts
    simp only [List.filterMap_cons, List.filterMap_nil, cellsR_tag, winR_tag, factsL, apartL, and_true, List.cons_append, List.nil_append, talkR_tag, enR_tag, judgeR_tag] at fM
    have hE0 : Keeps (OneB b) w6 w6.drew := (Keeps.refl _ _).drew
    refine wp_region_plan [(0, 0), (0, 1), (3, 2), (0, 3), (0, 4), (0, 5), (0, 6), (3, 7), (0, 8), (0, 9), (0, 10), (0, 11), (0, 12)] [] [13] [13] (ClsK (OneB b) w6) (by kernel_rfl) (by kernel_rfl) (by kernel_rfl) rfl rfl (ClsK.of hE0) (fun _ _ _ d _ h => by cases d <;> exact h) ?_; simp only [planL, List.getElem?_toArray, List.getElem?_cons_succ, List.getElem?_cons_zero]
    refine plan_pure rfl (fun K hK => quiet_move' _ rfl (hK _ ?_)); clear hK K; simp only [Act.put, Act.eval, Array.getD_eq_getD_getElem?, List.getElem?_toArray, List.getElem?_cons_zero, Option.getD_some, List.setIfInBounds_toArray, List.set_cons_zero, List.set_cons_succ]
    refine plan_pure rfl (fun K hK => quiet_run (v := ?_) (fun W _ => ?_) (hK _ ?_)); rotate_left; (go_simp <;> with_reducible rfl); clear hK K; simp only [Act.put, List.setIfInBounds_toArray, List.set_cons_zero, List.set_cons_succ]
    refine plan_exact rfl (fun K hK => quiet_runX (v := ?_) ?_ (hK _ ?_)); rotate_left; (go_simp <;> with_reducible rfl); clear hK K; simp only [Act.put, List.setIfInBounds_toArray, List.set_cons_zero, List.set_cons_succ]
    refine plan_pure rfl (fun K hK => quiet_run (v := ?_) (fun W _ => ?_) (hK _ ?_)); rotate_left; (go_simp <;> with_reducible rfl); clear hK K; simp only [Act.put, List.setIfInBounds_toArray, List.set_cons_zero, List.set_cons_succ]
    refine plan_pure rfl (fun K hK => quiet_run (v := ?_) (fun W _ => ?_) (hK _ ?_)); rotate_left; (go_simp <;> with_reducible rfl); clear hK K; simp only [Act.put, List.setIfInBounds_toArray, List.set_cons_zero, List.set_cons_succ]
    refine plan_pure rfl (fun K hK => quiet_run (v := ?_) (fun W _ => ?_) (hK _ ?_)); rotate_left; (go_simp <;> with_reducible rfl); clear hK K; simp only [Act.put, List.setIfInBounds_toArray, List.set_cons_zero, List.set_cons_succ]
    refine plan_pure rfl (fun K hK => quiet_run (v := ?_) (fun W _ => ?_) (hK _ ?_)); rotate_left; (go_simp <;> with_reducible rfl); clear hK K; simp only [Act.put, List.setIfInBounds_toArray, List.set_cons_zero, List.set_cons_succ]
    refine plan_exact rfl (fun K hK => quiet_runX (v := ?_) ?_ (hK _ ?_)); rotate_left; (go_simp <;> with_reducible rfl); clear hK K; simp only [Act.put, List.setIfInBounds_toArray, List.set_cons_zero, List.set_cons_succ]
    refine plan_pure rfl (fun K hK => quiet_run (v := ?_) (fun W _ => ?_) (hK _ ?_)); rotate_left; (go_simp <;> with_reducible rfl); clear hK K; simp only [Act.put, List.setIfInBounds_toArray, List.set_cons_zero, List.set_cons_succ]
    refine plan_pure rfl (fun K hK => quiet_run (v := ?_) (fun W _ => ?_) (hK _ ?_)); rotate_left; (go_simp <;> with_reducible rfl); clear hK K; simp only [Act.put, List.setIfInBounds_toArray, List.set_cons_zero, List.set_cons_succ]
    refine plan_pure rfl (fun K hK => quiet_run (v := ?_) (fun W _ => ?_) (hK _ ?_)); rotate_left; (go_simp <;> with_reducible rfl); clear hK K; simp only [Act.put, List.setIfInBounds_toArray, List.set_cons_zero, List.set_cons_succ]
    refine plan_pure rfl (fun K hK => quiet_run (v := ?_) (fun W _ => ?_) (hK _ ?_)); rotate_left; (go_simp <;> with_reducible rfl); clear hK K; simp only [Act.put, List.setIfInBounds_toArray, List.set_cons_zero, List.set_cons_succ]
    refine plan_pure rfl (fun K hK => quiet_run (v := ?_) (fun W _ => ?_) (hK _ ?_)); rotate_left; (go_simp <;> with_reducible rfl); clear hK K; simp only [Act.put, List.setIfInBounds_toArray, List.set_cons_zero, List.set_cons_succ]
    refine plan_nil ?_; simp only [tailL, List.filterMap_cons, List.filterMap_nil, List.getElem?_toArray, List.getElem?_cons_succ, List.getElem?_cons_zero]; change wpList _ _ _ (_ :: []) _ _
    go_wp2_with fail
    clear fM
    clear hE0
    go_end0
    rw [HQ.out, HW.out]
    refine ⟨rfl, ?_⟩
    first | apply Mem.call | apply Mem.postD | apply Mem.stop | apply Mem.toUpd | apply Mem.list | apply Mem.code
    · repeat (first | with_reducible exact HM.out | with_reducible exact Pick.here | with_reducible apply Pick.there | with_reducible apply Mem.drew | with_reducible apply Mem.alloc | with_reducible apply Mem.set | with_reducible apply Mem.allocO | (simp only [World.size_alloc, World.size_setCell, World.size_drew]; with_reducible rfl) | with_reducible rfl)
    intro w7 M
    try simp only [List.set_cons_zero, List.set_cons_succ] at M
    replace HM := Lib.hid M
    clear M
    rw [J.setTold tb mb HL.out.1 p HX.out.1] at HM
    exact (HM.out.shutJ (J := { J with told := J.told.set p (index + 1) }) (tb := tb) (mb := mb) (by simpa using HL.out.1) HL.out.2 (by repeat (first | with_reducible exact Pick.here | with_reducible apply Pick.there)) (by repeat (first | with_reducible exact Pick.here | with_reducible apply Pick.there)) (by repeat (first | with_reducible exact Pick.here | with_reducible apply Pick.there)))
  · have HE2 := Lib.hid h2
    have HD := Lib.hid (show ¬ ¬ index = J.told.getD p 0 from fun h => h e1.symm)
    clear hp hi0 hi1 hs0 ho hI e1 hl
    first | apply Mem.call | apply Mem.postD | apply Mem.stop | apply Mem.toUpd | apply Mem.list | apply Mem.code
    · repeat (first | with_reducible exact HM.out | with_reducible exact Pick.here | with_reducible apply Pick.there | with_reducible apply Mem.drew | with_reducible apply Mem.alloc | with_reducible apply Mem.set | with_reducible apply Mem.allocO | (simp only [World.size_alloc, World.size_setCell, World.size_drew]; with_reducible rfl) | with_reducible rfl)
    intro w2 M
    try simp only [List.set_cons_zero, List.set_cons_succ] at M
    replace HM := Lib.hid M
    clear M
    obtain ⟨Aht, ht⟩ := HM.out.get (r := talkR tb J.T) (by repeat (first | with_reducible exact Pick.here | with_reducible apply Pick.there))
    have HT := Lib.hid ht
    clear ht
    have fM := HM.out.facts
    simp only [List.filterMap_cons, List.filterMap_nil, cellsR_tag, winR_tag, factsL, apartL, and_true, List.cons_append, List.nil_append, talkR_tag, enR_tag, judgeR_tag] at fM
    have hE0 : Keeps NoB w2 w2.drew := (Keeps.refl _ _).drew
    refine wp_region_plan [(0, 0), (1, 1), (0, 2), (0, 3), (0, 4), (3, 5), (2, 6), (0, 7)] [1] [6] [] (ClsE w2) (by kernel_rfl) (by kernel_rfl) (by kernel_rfl) rfl rfl (ClsE.of hE0) (fun _ _ _ d _ h => by cases d <;> exact h) ?_; simp only [planL, List.getElem?_toArray, List.getElem?_cons_succ, List.getElem?_cons_zero]
    refine plan_pure rfl (fun K hK => quiet_run (v := ?_) (fun W _ => ?_) (hK _ ?_)); rotate_left; (go_simp <;> with_reducible rfl); clear hK K; simp only [Act.put, List.setIfInBounds_toArray, List.set_cons_zero, List.set_cons_succ]
    refine plan_load rfl (fun K hK => quiet_runE (v := ?_) (fun W => ?_) (hK _ ?_)); rotate_left; (go_simp <;> with_reducible rfl); clear hK K; simp only [Act.put, List.setIfInBounds_toArray, List.set_cons_zero, List.set_cons_succ]
    refine plan_pure rfl (fun K hK => quiet_move' _ rfl (hK _ ?_)); clear hK K; simp only [Act.put, Act.eval, Array.getD_eq_getD_getElem?, List.getElem?_toArray, List.getElem?_cons_zero, Option.getD_some, List.setIfInBounds_toArray, List.set_cons_zero, List.set_cons_succ]
    refine plan_pure rfl (fun K hK => quiet_run (v := ?_) (fun W _ => ?_) (hK _ ?_)); rotate_left; (go_simp <;> with_reducible rfl); clear hK K; simp only [Act.put, List.setIfInBounds_toArray, List.set_cons_zero, List.set_cons_succ]
    refine plan_pure rfl (fun K hK => quiet_run (v := ?_) (fun W _ => ?_) (hK _ ?_)); rotate_left; (go_simp <;> with_reducible rfl); clear hK K; simp only [Act.put, List.setIfInBounds_toArray, List.set_cons_zero, List.set_cons_succ]
    refine plan_exact rfl (fun K hK => quiet_runX (v := ?_) ?_ (hK _ ?_)); rotate_left; (go_simp <;> with_reducible rfl); clear hK K; simp only [Act.put, List.setIfInBounds_toArray, List.set_cons_zero, List.set_cons_succ]
    refine plan_does rfl (fun K hK => ?_)
    go_wp2_with fail
    refine (talk_len _ tb J.T (HT.out.ext hE0)).mono ?_
    rintro r w3 ⟨rfl, rfl⟩
    refine hK _ _ ⟨ClsE.of (by assumption), ?_⟩; clear hK K; try simp only [Act.put, List.setIfInBounds_toArray, List.set_cons_zero, List.set_cons_succ]
    refine plan_pure rfl (fun K hK => quiet_run (v := ?_) (fun W _ => ?_) (hK _ ?_)); rotate_left; (go_simp <;> with_reducible rfl); clear hK K; simp only [Act.put, List.setIfInBounds_toArray, List.set_cons_zero, List.set_cons_succ]
    refine plan_nil ?_; simp only [tailL, List.filterMap_nil]
    go_wp2_with fail
    clear fM
    clear hE0 h2 HT
    first | apply Mem.call | apply Mem.postD | apply Mem.stop | apply Mem.toUpd | apply Mem.list | apply Mem.code
    · repeat (first | with_reducible exact HM.out | with_reducible exact Pick.here | with_reducible apply Pick.there | with_reducible apply Mem.drew | with_reducible apply Mem.alloc | with_reducible apply Mem.set | with_reducible apply Mem.allocO | (simp only [World.size_alloc, World.size_setCell, World.size_drew]; with_reducible rfl) | with_reducible rfl)
    intro w3 M
    try simp only [List.set_cons_zero, List.set_cons_succ] at M
    replace HM := Lib.hid M
    clear M
    obtain ⟨Ahm, hm⟩ := HM.out.get (r := enR mb J.put) (by repeat (first | with_reducible exact Pick.here | with_reducible apply Pick.there))
    have hk := run_enhas (hm.2.ext (Ext.drew0 w3)) HX.out.2.2.2.2.2.1
    unfold En.v at hk
    clear hm
    have fM := HM.out.facts
    simp only [List.filterMap_cons, List.filterMap_nil, cellsR_tag, winR_tag, factsL, apartL, and_true, List.cons_append, List.nil_append, talkR_tag, enR_tag, judgeR_tag] at fM
    have hE0 : Keeps NoB w3 w3.drew := (Keeps.refl _ _).drew
    refine wp_region_plan [(0, 0), (0, 1), (0, 2), (3, 3), (0, 4), (3, 5), (3, 6)] [] [7, 8] [7, 8] (ClsE w3) (by kernel_rfl) (by kernel_rfl) (by kernel_rfl) rfl rfl (ClsE.of hE0) (fun _ _ _ d _ h => by cases d <;> exact h) ?_; simp only [planL, List.getElem?_toArray, List.getElem?_cons_succ, List.getElem?_cons_zero]
    refine plan_pure rfl (fun K hK => quiet_move' _ rfl (hK _ ?_)); clear hK K; simp only [Act.put, Act.eval, Array.getD_eq_getD_getElem?, List.getElem?_toArray, List.getElem?_cons_zero, Option.getD_some, List.setIfInBounds_toArray, List.set_cons_zero, List.set_cons_succ]
    refine plan_pure rfl (fun K hK => quiet_run (v := ?_) (fun W _ => ?_) (hK _ ?_)); rotate_left; (go_simp <;> with_reducible rfl); clear hK K; simp only [Act.put, List.setIfInBounds_toArray, List.set_cons_zero, List.set_cons_succ]
    refine plan_pure rfl (fun K hK => quiet_run (v := ?_) (fun W _ => ?_) (hK _ ?_)); rotate_left; (go_simp <;> with_reducible rfl); clear hK K; simp only [Act.put, List.setIfInBounds_toArray, List.set_cons_zero, List.set_cons_succ]
    refine plan_exact rfl (fun K hK => quiet_runX (v := ?_) ?_ (hK _ ?_)); rotate_left; (go_simp <;> with_reducible rfl); clear hK K; simp only [Act.put, List.setIfInBounds_toArray, List.set_cons_zero, List.set_cons_succ]
    refine plan_pure rfl (fun K hK => quiet_run (v := ?_) (fun W _ => ?_) (hK _ ?_)); rotate_left; (go_simp <;> with_reducible rfl); clear hK K; simp only [Act.put, List.setIfInBounds_toArray, List.set_cons_zero, List.set_cons_succ]
    refine plan_exact rfl (fun K hK => quiet_runX (v := ?_) ?_ (hK _ ?_)); rotate_left; (go_simp <;> with_reducible rfl); clear hK K; simp only [Act.put, List.setIfInBounds_toArray, List.set_cons_zero, List.set_cons_succ]
    refine plan_exact rfl (fun K hK => quiet_runX (v := ?_) ?_ (hK _ ?_)); rotate_left; (go_simp <;> with_reducible rfl); clear hK K; simp only [Act.put, List.setIfInBounds_toArray, List.set_cons_zero, List.set_cons_succ]
    refine plan_nil ?_; simp only [tailL, List.filterMap_cons, List.filterMap_nil, List.getElem?_toArray, List.getElem?_cons_succ, List.getElem?_cons_zero]; change wpList _ _ _ (_ :: _ :: []) _ _
    go_wp2_with fail
    clear fM
    clear hk hE0
    first | apply Mem.call | apply Mem.postD | apply Mem.stop | apply Mem.toUpd | apply Mem.list | apply Mem.code
    · repeat (first | with_reducible exact HM.out | with_reducible exact Pick.here | with_reducible apply Pick.there | with_reducible apply Mem.drew | with_reducible apply Mem.alloc | with_reducible apply Mem.set | with_reducible apply Mem.allocO | (simp only [World.size_alloc, World.size_setCell, World.size_drew]; with_reducible rfl) | with_reducible rfl)
    intro w4 M
    try simp only [List.set_cons_zero, List.set_cons_succ] at M
    replace HM := Lib.hid M
    clear M
    obtain ⟨Ahb, hb⟩ := HM.out.get (r := cellsR w3.heap.size 4 [.bool (decide (e ∈ J.put))]) (by repeat (first | with_reducible exact Pick.here | with_reducible apply Pick.there))
    refine (must_1 w4 _ 401 _ hb.2).mono ?_
    rintro r w' ⟨rfl, rfl⟩
    replace HM := Lib.hid (HM.out.pick (r := cellsR w3.heap.size 4 [.bool (decide (e ∈ J.put))]) (by repeat (first | with_reducible exact Pick.here | with_reducible apply Pick.there))).drop
    clear hb
    by_cases hx : e ∈ J.put
    case neg =>
      rw [decide_eq_false hx]
      simp only [mustE, Bool.false_eq_true, if_false, errE]
      go_wp2_with fail
      have hq : lineR J p index e = (J, 401) := by unfold lineR; rw [if_neg HD.out, if_neg (by have := HE2.out; omega), if_pos hx]
      rw [hq]
      exact ⟨rfl, rfl, HM.out.shutJ (J := J) (tb := tb) (mb := mb) HL.out.1 HL.out.2 (by repeat (first | with_reducible exact Pick.here | with_reducible apply Pick.there)) (by repeat (first | with_reducible exact Pick.here | with_reducible apply Pick.there)) (by repeat (first | with_reducible exact Pick.here | with_reducible apply Pick.there))⟩
    rw [decide_eq_true hx]
    simp only [mustE, if_true]
    have HP := Lib.hid hx
    clear hx
    go_wp2_with fail
    first | apply Mem.call | apply Mem.postD | apply Mem.stop | apply Mem.toUpd | apply Mem.list | apply Mem.code
    · repeat (first | with_reducible exact HM.out | with_reducible exact Pick.here | with_reducible apply Pick.there | with_reducible apply Mem.drew | with_reducible apply Mem.alloc | with_reducible apply Mem.set | with_reducible apply Mem.allocO | (simp only [World.size_alloc, World.size_setCell, World.size_drew]; with_reducible rfl) | with_reducible rfl)
    intro w5 M
    try simp only [List.set_cons_zero, List.set_cons_succ] at M
    replace HM := Lib.hid M
    clear M
    obtain ⟨Aht, ht⟩ := HM.out.get (r := talkR tb J.T) (by repeat (first | with_reducible exact Pick.here | with_reducible apply Pick.there))
    have HT := Lib.hid ht
    clear ht
    have HE5 := Lib.hid HM.out.keepsTo
    have fM := HM.out.facts
    simp only [List.filterMap_cons, List.filterMap_nil, cellsR_tag, winR_tag, factsL, apartL, and_true, List.cons_append, List.nil_append, talkR_tag, enR_tag, judgeR_tag] at fM
    have hE0 : Keeps NoB w5 w5.drew := (Keeps.refl _ _).drew
    refine wp_region_plan [(0, 0), (0, 1), (0, 2), (3, 3), (0, 6), (0, 7), (0, 8), (1, 9), (0, 10), (1, 11), (2, 4), (0, 5)] [9, 11] [4, 12, 13, 14] [12, 13, 14] (ClsE w5) (by kernel_rfl) (by kernel_rfl) (by kernel_rfl) rfl rfl (ClsE.of hE0) (fun _ _ _ d _ h => by cases d <;> exact h) ?_; simp only [planL, List.getElem?_toArray, List.getElem?_cons_succ, List.getElem?_cons_zero]
    refine plan_pure rfl (fun K hK => quiet_move' _ rfl (hK _ ?_)); clear hK K; simp only [Act.put, Act.eval, Array.getD_eq_getD_getElem?, List.getElem?_toArray, List.getElem?_cons_zero, Option.getD_some, List.setIfInBounds_toArray, List.set_cons_zero, List.set_cons_succ]
    refine plan_pure rfl (fun K hK => quiet_run (v := ?_) (fun W _ => ?_) (hK _ ?_)); rotate_left; (go_simp <;> with_reducible rfl); clear hK K; simp only [Act.put, List.setIfInBounds_toArray, List.set_cons_zero, List.set_cons_succ]
    refine plan_pure rfl (fun K hK => quiet_run (v := ?_) (fun W _ => ?_) (hK _ ?_)); rotate_left; (go_simp <;> with_reducible rfl); clear hK K; simp only [Act.put, List.setIfInBounds_toArray, List.set_cons_zero, List.set_cons_succ]
    refine plan_exact rfl (fun K hK => quiet_runX (v := ?_) ?_ (hK _ ?_)); rotate_left; (go_simp <;> with_reducible rfl); clear hK K; simp only [Act.put, List.setIfInBounds_toArray, List.set_cons_zero, List.set_cons_succ]
    refine plan_pure rfl (fun K hK => quiet_move' _ rfl (hK _ ?_)); clear hK K; simp only [Act.put, Act.eval, Array.getD_eq_getD_getElem?, List.getElem?_toArray, List.getElem?_cons_zero, Option.getD_some, List.setIfInBounds_toArray, List.set_cons_zero, List.set_cons_succ]
    refine plan_pure rfl (fun K hK => quiet_run (v := ?_) (fun W _ => ?_) (hK _ ?_)); rotate_left; (go_simp <;> with_reducible rfl); clear hK K; simp only [Act.put, List.setIfInBounds_toArray, List.set_cons_zero, List.set_cons_succ]
    refine plan_pure rfl (fun K hK => quiet_run (v := ?_) (fun W _ => ?_) (hK _ ?_)); rotate_left; (go_simp <;> with_reducible rfl); clear hK K; simp only [Act.put, List.setIfInBounds_toArray, List.set_cons_zero, List.set_cons_succ]
    refine plan_load rfl (fun K hK => quiet_runE (v := ?_) (fun W => ?_) (hK _ ?_)); rotate_left; (go_simp <;> with_reducible rfl); clear hK K; simp only [Act.put, List.setIfInBounds_toArray, List.set_cons_zero, List.set_cons_succ]
    refine plan_pure rfl (fun K hK => quiet_run (v := ?_) (fun W _ => ?_) (hK _ ?_)); rotate_left; (go_simp <;> with_reducible rfl); clear hK K; simp only [Act.put, List.setIfInBounds_toArray, List.set_cons_zero, List.set_cons_succ]
    refine plan_load rfl (fun K hK => quiet_runE (v := ?_) (fun W => ?_) (hK _ ?_)); rotate_left; (go_simp <;> with_reducible rfl); clear hK K; simp only [Act.put, List.setIfInBounds_toArray, List.set_cons_zero, List.set_cons_succ]
    refine plan_does rfl (fun K hK => ?_)
    go_wp2_with fail
    refine (talk_slot _ tb J.T (HT.out.ext hE0)).mono ?_
    rintro r w6 ⟨rfl, rfl⟩
    refine hK _ _ ⟨ClsE.of (by assumption), ?_⟩; clear hK K; try simp only [Act.put, List.setIfInBounds_toArray, List.set_cons_zero, List.set_cons_succ]
    refine plan_pure rfl (fun K hK => quiet_run (v := ?_) (fun W _ => ?_) (hK _ ?_)); rotate_left; (go_simp <;> with_reducible rfl); clear hK K; simp only [Act.put, List.setIfInBounds_toArray, List.set_cons_zero, List.set_cons_succ]
    refine plan_nil ?_; simp only [tailL, List.filterMap_cons, List.filterMap_nil, List.getElem?_toArray, List.getElem?_cons_succ, List.getElem?_cons_zero]; change wpList _ _ _ (_ :: _ :: _ :: []) _ _
    go_wp2_with fail
    refine (would_any _ tb J.T e (HT.out.ext hE0) HX.out.2.2.2.2.2.2 (fun h w1 h1 => HC.out h w1 ((HE5.out.ext hE0).ext h1))).mono ?_
    rintro r w6 ⟨rfl, hE6⟩
    have hE5 : Ext w5 w6 := hE0.ext hE6
    replace HM := Lib.hid (HM.out.ext hE5)
    go_wp2_with fail
    clear fM
    clear hE0 hE5 hE6 HT HE5
    first | apply Mem.call | apply Mem.postD | apply Mem.stop | apply Mem.toUpd | apply Mem.list | apply Mem.code
    · repeat (first | with_reducible exact HM.out | with_reducible exact Pick.here | with_reducible apply Pick.there | with_reducible apply Mem.drew | with_reducible apply Mem.alloc | with_reducible apply Mem.set | with_reducible apply Mem.allocO | (simp only [World.size_alloc, World.size_setCell, World.size_drew]; with_reducible rfl) | with_reducible rfl)
    intro w7 M
    try simp only [List.set_cons_zero, List.set_cons_succ] at M
    replace HM := Lib.hid M
    clear M
    obtain ⟨Ahb, hb⟩ := HM.out.get (r := cellsR w6.heap.size 4 [.bool (decide (J.T.slot < 4096)), .bool (enB e && (countsR J.T e).2)]) (by repeat (first | with_reducible exact Pick.here | with_reducible apply Pick.there))
    refine (must_2 w7 _ 402 _ _ hb.2).mono ?_
    rintro r w' ⟨rfl, rfl⟩
    replace HM := Lib.hid (HM.out.pick (r := cellsR w6.heap.size 4 [.bool (decide (J.T.slot < 4096)), .bool (enB e && (countsR J.T e).2)]) (by repeat (first | with_reducible exact Pick.here | with_reducible apply Pick.there))).drop
    clear hb
    have hq0 : lineR J p index e = if J.T.slot < 4096 ∧ (enB e && (countsR J.T e).2) = true then ({ J with T := J.T.put e, told := J.told.set p (index + 1) }, 0) else (J, 402) := by
      unfold lineR; rw [if_neg HD.out, if_neg (by have := HE2.out; omega), if_neg (fun h => h HP.out)]
    by_cases hx : J.T.slot < 4096 ∧ (enB e && (countsR J.T e).2) = true
    case neg =>
      have hd : (decide (J.T.slot < 4096) && (enB e && (countsR J.T e).2)) = false := by
        cases h : decide (J.T.slot < 4096)
        · rfl
        · cases h' : (enB e && (countsR J.T e).2)
          · rfl
          · exact (hx ⟨of_decide_eq_true h, h'⟩).elim
      rw [hd]
      simp only [mustE, Bool.false_eq_true, if_false, errE]
      go_wp2_with fail
      rw [if_neg hx] at hq0
      rw [hq0]
      exact ⟨rfl, rfl, HM.out.shutJ (J := J) (tb := tb) (mb := mb) HL.out.1 HL.out.2 (by repeat (first | with_reducible exact Pick.here | with_reducible apply Pick.there)) (by repeat (first | with_reducible exact Pick.here | with_reducible apply Pick.there)) (by repeat (first | with_reducible exact Pick.here | with_reducible apply Pick.there))⟩
    rw [if_pos hx] at hq0
    have HQ := Lib.hid hq0
    rw [decide_eq_true hx.1, hx.2]
    simp only [mustE, Bool.true_and, if_true]
    have HH := Lib.hid hx
    clear hx hq0
    go_wp2_with fail
    first | apply Mem.call | apply Mem.postD | apply Mem.stop | apply Mem.toUpd | apply Mem.list | apply Mem.code
    · repeat (first | with_reducible exact HM.out | with_reducible exact Pick.here | with_reducible apply Pick.there | with_reducible apply Mem.drew | with_reducible apply Mem.alloc | with_reducible apply Mem.set | with_reducible apply Mem.allocO | (simp only [World.size_alloc, World.size_setCell, World.size_drew]; with_reducible rfl) | with_reducible rfl)
    intro w8 M
    try simp only [List.set_cons_zero, List.set_cons_succ] at M
    replace HM := Lib.hid M
    clear M
    obtain ⟨Aht, ht⟩ := HM.out.get (r := talkR tb J.T) (by repeat (first | with_reducible exact Pick.here | with_reducible apply Pick.there))
    have HT := Lib.hid ht
    clear ht
    have fM := HM.out.facts
    simp only [List.filterMap_cons, List.filterMap_nil, cellsR_tag, winR_tag, factsL, apartL, and_true, List.cons_append, List.nil_append, talkR_tag, enR_tag, judgeR_tag] at fM
    have hE0 : Keeps NoB w8 w8.drew := (Keeps.refl _ _).drew
    refine wp_region_plan [(0, 0), (0, 1), (0, 2), (1, 3), (0, 4), (0, 5), (0, 6), (3, 7), (0, 9), (1, 10), (2, 8)] [3, 10] [8, 11] [11] (ClsE w8) (by kernel_rfl) (by kernel_rfl) (by kernel_rfl) rfl rfl (ClsE.of hE0) (fun _ _ _ d _ h => by cases d <;> exact h) ?_; simp only [planL, List.getElem?_toArray, List.getElem?_cons_succ, List.getElem?_cons_zero]
    refine plan_pure rfl (fun K hK => quiet_move' _ rfl (hK _ ?_)); clear hK K; simp only [Act.put, Act.eval, Array.getD_eq_getD_getElem?, List.getElem?_toArray, List.getElem?_cons_zero, Option.getD_some, List.setIfInBounds_toArray, List.set_cons_zero, List.set_cons_succ]
    refine plan_pure rfl (fun K hK => quiet_run (v := ?_) (fun W _ => ?_) (hK _ ?_)); rotate_left; (go_simp <;> with_reducible rfl); clear hK K; simp only [Act.put, List.setIfInBounds_toArray, List.set_cons_zero, List.set_cons_succ]
    refine plan_pure rfl (fun K hK => quiet_run (v := ?_) (fun W _ => ?_) (hK _ ?_)); rotate_left; (go_simp <;> with_reducible rfl); clear hK K; simp only [Act.put, List.setIfInBounds_toArray, List.set_cons_zero, List.set_cons_succ]
    refine plan_load rfl (fun K hK => quiet_runE (v := ?_) (fun W => ?_) (hK _ ?_)); rotate_left; (go_simp <;> with_reducible rfl); clear hK K; simp only [Act.put, List.setIfInBounds_toArray, List.set_cons_zero, List.set_cons_succ]
    refine plan_pure rfl (fun K hK => quiet_move' _ rfl (hK _ ?_)); clear hK K; simp only [Act.put, Act.eval, Array.getD_eq_getD_getElem?, List.getElem?_toArray, List.getElem?_cons_zero, Option.getD_some, List.setIfInBounds_toArray, List.set_cons_zero, List.set_cons_succ]
    refine plan_pure rfl (fun K hK => quiet_run (v := ?_) (fun W _ => ?_) (hK _ ?_)); rotate_left; (go_simp <;> with_reducible rfl); clear hK K; simp only [Act.put, List.setIfInBounds_toArray, List.set_cons_zero, List.set_cons_succ]
    refine plan_pure rfl (fun K hK => quiet_run (v := ?_) (fun W _ => ?_) (hK _ ?_)); rotate_left; (go_simp <;> with_reducible rfl); clear hK K; simp only [Act.put, List.setIfInBounds_toArray, List.set_cons_zero, List.set_cons_succ]
    refine plan_exact rfl (fun K hK => quiet_runX (v := ?_) ?_ (hK _ ?_)); rotate_left; (go_simp <;> with_reducible rfl); clear hK K; simp only [Act.put, List.setIfInBounds_toArray, List.set_cons_zero, List.set_cons_succ]
    refine plan_pure rfl (fun K hK => quiet_run (v := ?_) (fun W _ => ?_) (hK _ ?_)); rotate_left; (go_simp <;> with_reducible rfl); clear hK K; simp only [Act.put, List.setIfInBounds_toArray, List.set_cons_zero, List.set_cons_succ]
    refine plan_load rfl (fun K hK => quiet_runE (v := ?_) (fun W => ?_) (hK _ ?_)); rotate_left; (go_simp <;> with_reducible rfl); clear hK K; simp only [Act.put, List.setIfInBounds_toArray, List.set_cons_zero, List.set_cons_succ]
    refine plan_does rfl (fun K hK => ?_)
    go_wp2_with fail
    refine (talk_slot _ tb J.T (HT.out.ext hE0)).mono ?_
    rintro r w9 ⟨rfl, rfl⟩
    refine hK _ _ ⟨ClsE.of (by assumption), ?_⟩; clear hK K; try simp only [Act.put, List.setIfInBounds_toArray, List.set_cons_zero, List.set_cons_succ]
    refine plan_nil ?_; simp only [tailL, List.filterMap_cons, List.filterMap_nil, List.getElem?_toArray, List.getElem?_cons_succ, List.getElem?_cons_zero]; change wpList _ _ _ (_ :: []) _ _
    go_wp2_with fail
    clear fM
    clear hE0
    first | apply Mem.call | apply Mem.postD | apply Mem.stop | apply Mem.toUpd | apply Mem.list | apply Mem.code
    · repeat (first | with_reducible exact HM.out | with_reducible exact Pick.here | with_reducible apply Pick.there | with_reducible apply Mem.drew | with_reducible apply Mem.alloc | with_reducible apply Mem.set | with_reducible apply Mem.allocO | (simp only [World.size_alloc, World.size_setCell, World.size_drew]; with_reducible rfl) | with_reducible rfl)
    intro w9 M
    try simp only [List.set_cons_zero, List.set_cons_succ] at M
    replace HM := Lib.hid M
    clear M
    have hk9 := HM.out.keepsTo
    obtain ⟨A, hA, hup⟩ := (HM.out.pick (r := talkR tb J.T) (by repeat (first | with_reducible exact Pick.here | with_reducible apply Pick.there))).step
    obtain ⟨h1, h2⟩ := HH.out
    rw [Bool.and_eq_true] at h2
    refine (apply_ok w9 tb J.T e hA HX.out.2.2.2.2.2.2 h2.1 h2.2 HX.out.2.2.2.2.1 h1 HX.out.2.2.2.1 (fun h w1 h1 => HC.out h w1 (hk9.ext h1))).mono ?_
    rintro r w10 ⟨F', rfl, u1, u2, u3⟩
    replace HM := Lib.hid (hup (talkR tb (J.T.put e)) w10 ⟨F', u1, u2, u3⟩)
    clear hup hA u1 u2 u3 h1 h2 hk9
    go_wp2_with fail
    first | apply Mem.call | apply Mem.postD | apply Mem.stop | apply Mem.toUpd | apply Mem.list | apply Mem.code
    · repeat (first | with_reducible exact HM.out | with_reducible exact Pick.here | with_reducible apply Pick.there | with_reducible apply Mem.drew | with_reducible apply Mem.alloc | with_reducible apply Mem.set | with_reducible apply Mem.allocO | (simp only [World.size_alloc, World.size_setCell, World.size_drew]; with_reducible rfl) | with_reducible rfl)
    intro w6 M
    try simp only [List.set_cons_zero, List.set_cons_succ] at M
    replace HM := Lib.hid M
    clear M
    have fM := HM.out.facts
    simp only [List.filterMap_cons, List.filterMap_nil, cellsR_tag, winR_tag, factsL, apartL, and_true, List.cons_append, List.nil_append, talkR_tag, enR_tag, judgeR_tag] at fM
    have hE0 : Keeps (OneB b) w6 w6.drew := (Keeps.refl _ _).drew
    refine wp_region_plan [(0, 0), (0, 1), (3, 2), (0, 3), (0, 4), (0, 5), (0, 6), (3, 7), (0, 8), (0, 9), (0, 10), (0, 11), (0, 12)] [] [13] [13] (ClsK (OneB b) w6) (by kernel_rfl) (by kernel_rfl) (by kernel_rfl) rfl rfl (ClsK.of hE0) (fun _ _ _ d _ h => by cases d <;> exact h) ?_; simp only [planL, List.getElem?_toArray, List.getElem?_cons_succ, List.getElem?_cons_zero]
    refine plan_pure rfl (fun K hK => quiet_move' _ rfl (hK _ ?_)); clear hK K; simp only [Act.put, Act.eval, Array.getD_eq_getD_getElem?, List.getElem?_toArray, List.getElem?_cons_zero, Option.getD_some, List.setIfInBounds_toArray, List.set_cons_zero, List.set_cons_succ]
    refine plan_pure rfl (fun K hK => quiet_run (v := ?_) (fun W _ => ?_) (hK _ ?_)); rotate_left; (go_simp <;> with_reducible rfl); clear hK K; simp only [Act.put, List.setIfInBounds_toArray, List.set_cons_zero, List.set_cons_succ]
    refine plan_exact rfl (fun K hK => quiet_runX (v := ?_) ?_ (hK _ ?_)); rotate_left; (go_simp <;> with_reducible rfl); clear hK K; simp only [Act.put, List.setIfInBounds_toArray, List.set_cons_zero, List.set_cons_succ]
    refine plan_pure rfl (fun K hK => quiet_run (v := ?_) (fun W _ => ?_) (hK _ ?_)); rotate_left; (go_simp <;> with_reducible rfl); clear hK K; simp only [Act.put, List.setIfInBounds_toArray, List.set_cons_zero, List.set_cons_succ]
    refine plan_pure rfl (fun K hK => quiet_run (v := ?_) (fun W _ => ?_) (hK _ ?_)); rotate_left; (go_simp <;> with_reducible rfl); clear hK K; simp only [Act.put, List.setIfInBounds_toArray, List.set_cons_zero, List.set_cons_succ]
    refine plan_pure rfl (fun K hK => quiet_run (v := ?_) (fun W _ => ?_) (hK _ ?_)); rotate_left; (go_simp <;> with_reducible rfl); clear hK K; simp only [Act.put, List.setIfInBounds_toArray, List.set_cons_zero, List.set_cons_succ]
    refine plan_pure rfl (fun K hK => quiet_run (v := ?_) (fun W _ => ?_) (hK _ ?_)); rotate_left; (go_simp <;> with_reducible rfl); clear hK K; simp only [Act.put, List.setIfInBounds_toArray, List.set_cons_zero, List.set_cons_succ]
    refine plan_exact rfl (fun K hK => quiet_runX (v := ?_) ?_ (hK _ ?_)); rotate_left; (go_simp <;> with_reducible rfl); clear hK K; simp only [Act.put, List.setIfInBounds_toArray, List.set_cons_zero, List.set_cons_succ]
    refine plan_pure rfl (fun K hK => quiet_run (v := ?_) (fun W _ => ?_) (hK _ ?_)); rotate_left; (go_simp <;> with_reducible rfl); clear hK K; simp only [Act.put, List.setIfInBounds_toArray, List.set_cons_zero, List.set_cons_succ]
    refine plan_pure rfl (fun K hK => quiet_run (v := ?_) (fun W _ => ?_) (hK _ ?_)); rotate_left; (go_simp <;> with_reducible rfl); clear hK K; simp only [Act.put, List.setIfInBounds_toArray, List.set_cons_zero, List.set_cons_succ]
    refine plan_pure rfl (fun K hK => quiet_run (v := ?_) (fun W _ => ?_) (hK _ ?_)); rotate_left; (go_simp <;> with_reducible rfl); clear hK K; simp only [Act.put, List.setIfInBounds_toArray, List.set_cons_zero, List.set_cons_succ]
    refine plan_pure rfl (fun K hK => quiet_run (v := ?_) (fun W _ => ?_) (hK _ ?_)); rotate_left; (go_simp <;> with_reducible rfl); clear hK K; simp only [Act.put, List.setIfInBounds_toArray, List.set_cons_zero, List.set_cons_succ]
    refine plan_pure rfl (fun K hK => quiet_run (v := ?_) (fun W _ => ?_) (hK _ ?_)); rotate_left; (go_simp <;> with_reducible rfl); clear hK K; simp only [Act.put, List.setIfInBounds_toArray, List.set_cons_zero, List.set_cons_succ]
    refine plan_nil ?_; simp only [tailL, List.filterMap_cons, List.filterMap_nil, List.getElem?_toArray, List.getElem?_cons_succ, List.getElem?_cons_zero]; change wpList _ _ _ (_ :: []) _ _
    go_wp2_with fail
    clear fM
    clear hE0
    go_end0
    rw [HQ.out, HW.out]
    refine ⟨rfl, ?_⟩
    first | apply Mem.call | apply Mem.postD | apply Mem.stop | apply Mem.toUpd | apply Mem.list | apply Mem.code
    · repeat (first | with_reducible exact HM.out | with_reducible exact Pick.here | with_reducible apply Pick.there | with_reducible apply Mem.drew | with_reducible apply Mem.alloc | with_reducible apply Mem.set | with_reducible apply Mem.allocO | (simp only [World.size_alloc, World.size_setCell, World.size_drew]; with_reducible rfl) | with_reducible rfl)
    intro w7 M
    try simp only [List.set_cons_zero, List.set_cons_succ] at M
    replace HM := Lib.hid M
    clear M
    rw [J.setTold tb mb HL.out.1 p HX.out.1] at HM
    rw [show ({ J with told := J.told.set p (index + 1) } : JA).cells tb mb = ({ J with T := J.T.put e, told := J.told.set p (index + 1) } : JA).cells tb mb from rfl] at HM
    exact HM.out.shutJ (J := { J with T := J.T.put e, told := J.told.set p (index + 1) }) (tb := tb) (mb := mb) (by simpa using HL.out.1) HL.out.2 (by repeat (first | with_reducible exact Pick.here | with_reducible apply Pick.there)) (by repeat (first | with_reducible exact Pick.here | with_reducible apply Pick.there)) (by repeat (first | with_reducible exact Pick.here | with_reducible apply Pick.there))
end Go.Proofs.YthhdgjofagdjeaaDoor
