/- A judge sees a thing. Condition: it lies as 'JudgeX' says, and is 'OkJ'; of an entry that says something, that text.Check answers as the document's. -/
import Derived.Test.YthhdgjofagdjeaaDoorJAA
set_option linter.unusedVariables false
set_option linter.unusedSimpArgs false
set_option maxHeartbeats 2000000
set_option maxRecDepth 10000
namespace Go.Proofs.YthhdgjofagdjeaaDoor
open Go.RowKit

def seeR (J : JA) (x : Sn) : JA × Int :=
  if mayE J x = 0 then (if (kindsR J x).2 = 0 then ((kindsR J x).1, 0) else ({ (kindsR J x).1 with broken := wrap64 ((kindsR J x).1.broken + 1) }, (kindsR J x).2)) else (J, mayE J x)
theorem JA.setBroken (J : JA) (tb mb : Nat) (h9 : J.told.length = 9) (h16 : J.next.length = 16) (n : Int) : (J.cells tb mb).set 25 (.int .i64 n) = ({ J with broken := n } : JA).cells tb mb := by
  have a1 : (J.told.map iV).length = 9 := by rw [List.length_map, h9]
  have a2 : (J.next.map iV).length = 16 := by rw [List.length_map, h16]
  unfold JA.cells
  rw [List.set_append_right _ _ (by omega), a1, List.set_append_right _ _ (by omega), a2]
  rfl
theorem Mem.leaves {F : Nat → Prop} {w0 w' : World} {L : List Res} {P : Program} {fn : Func} {tmps : Array Value} {R : Ending → World → Prop} {ds : List Deferred} {u : FrameMode} (h : Mem F w0 w' L) (k : ∀ w, Mem F w0 w L → Leaves P fn tmps R ds u w) : Leaves P fn tmps R ds u w' := k _ h
theorem see_any {F : Nat → Prop} (w : World) (b : Nat) (J : JA) (x : Sn) (h : JudgeX w F b J) (hok : OkJ J) (ho : OkE x.e) (hIk : I64 x.kind) (hI : I64 x.e.kind)
    (hC : x.e.kind = 4 → ∀ w1, Keeps F w w1 → Calls Tryd.prog 65 #[.string (bs x.e.text)] w1 fun r w' => r = .returned (.int .i64 (chk x.e.text : Int)) ∧ Ext w1 w') :
    Calls Tryd.prog 14 #[.pointer (some ⟨b, 0, none⟩), x.v] w fun r w' => r = .returned (.int .i64 (seeR J x).2) ∧ Upd F w w' (judgeR b (seeR J x).1) := by
  have HLF := Lib.hid (show ∀ k, F k → k < w.heap.size from let ⟨_, _, _, h⟩ := h; h.lt)
  have HM := Lib.hid (Mem.start (r := judgeR b J) h)
  have HBL := Lib.hid (show b < w.heap.size from let ⟨_, _, _, h⟩ := h; h.lt b h.fb)
  have HOK := Lib.hid hok
  have HO := Lib.hid ho
  have HI := Lib.hid hI
  have HIK := Lib.hid hIk
  have HC := Lib.hid hC
  have hmf : ∀ (fn : Fn) (first cap : Array Value) (w : World), (Instr.makeFunc fn first cap).run Tryd.prog w = .ok (.func fn first cap) w := fun _ _ _ _ => rfl
  clear h hok ho hI hIk hC
  have HXV := Lib.hid (show x.v = .agg #[.int .i64 x.kind, .int .i64 x.who, .int .i64 x.index, .int .i64 x.e.kind, .int .i64 x.e.member, .int .i64 x.e.number, .string (bs x.e.text)] from rfl)
  rw [HXV.out]
  go_enter_defers Tryd.func14, Tryd.ntmps14
  have fM := HM.out.facts
  simp only [List.filterMap_cons, List.filterMap_nil, cellsR_tag, winR_tag, factsL, apartL, and_true, List.cons_append, List.nil_append, talkR_tag, enR_tag, judgeR_tag] at fM
  go_wp2_with fail
  all_goals clear fM
  first | apply Mem.call | apply Mem.postD | apply Mem.stop | apply Mem.toUpd | apply Mem.list | apply Mem.code
  · repeat (first | with_reducible exact HM.out | with_reducible exact Pick.here | with_reducible apply Pick.there | with_reducible apply Mem.drew | with_reducible apply Mem.alloc | with_reducible apply Mem.set | with_reducible apply Mem.allocO | (simp only [World.size_alloc, World.size_setCell, World.size_drew]; with_reducible rfl) | with_reducible rfl)
  intro w0 M
  try simp only [List.set_cons_zero, List.set_cons_succ] at M
  replace HM := Lib.hid M
  clear M
  obtain ⟨Ahj, hj⟩ := HM.out.get (r := judgeR b J) (by repeat (first | with_reducible exact Pick.here | with_reducible apply Pick.there))
  refine (judge_none w0 b J hj).mono ?_
  rintro r wq ⟨rfl, hwq⟩
  rw [hwq]
  clear hwq wq hj
  have fM := HM.out.facts
  simp only [List.filterMap_cons, List.filterMap_nil, cellsR_tag, winR_tag, factsL, apartL, and_true, List.cons_append, List.nil_append, talkR_tag, enR_tag, judgeR_tag] at fM
  go_wp2_with fail
  all_goals clear fM
  first | apply Mem.call | apply Mem.postD | apply Mem.stop | apply Mem.toUpd | apply Mem.list | apply Mem.code
  · repeat (first | with_reducible exact HM.out | with_reducible exact Pick.here | with_reducible apply Pick.there | with_reducible apply Mem.drew | with_reducible apply Mem.alloc | with_reducible apply Mem.set | with_reducible apply Mem.allocO | (simp only [World.size_alloc, World.size_setCell, World.size_drew]; with_reducible rfl) | with_reducible rfl)
  intro w1 M
  try simp only [List.set_cons_zero, List.set_cons_succ] at M
  replace HM := Lib.hid M
  clear M
  obtain ⟨Ahj, hj⟩ := HM.out.get (r := judgeR b J) (by repeat (first | with_reducible exact Pick.here | with_reducible apply Pick.there))
  have hk1 := HM.out.keepsTo
  rw [← HXV.out]
  refine (may_any w1 b J x hj HIK.out HI.out (fun h w2 h2 => HC.out h w2 (hk1.ext h2))).mono ?_
  rintro r w2 ⟨rfl, hE2⟩
  replace HM := Lib.hid (HM.out.ext hE2)
  clear hE2 hj hk1
  by_cases h0 : mayE J x = 0
  case neg =>
    have hq : seeR J x = (J, mayE J x) := by unfold seeR; rw [if_neg h0]
    have HQ := Lib.hid hq
    clear hq
    have h0' : (mayE J x == 0) = false := by simpa using h0
    have fM := HM.out.facts
    simp only [List.filterMap_cons, List.filterMap_nil, cellsR_tag, winR_tag, factsL, apartL, and_true, List.cons_append, List.nil_append, talkR_tag, enR_tag, judgeR_tag] at fM
    go_wp2_with fail
    all_goals clear fM
    first | apply Mem.call | apply Mem.postD | apply Mem.stop | apply Mem.toUpd | apply Mem.list | apply Mem.code
    · repeat (first | with_reducible exact HM.out | with_reducible exact Pick.here | with_reducible apply Pick.there | with_reducible apply Mem.drew | with_reducible apply Mem.alloc | with_reducible apply Mem.set | with_reducible apply Mem.allocO | (simp only [World.size_alloc, World.size_setCell, World.size_drew]; with_reducible rfl) | with_reducible rfl)
    intro w3 M
    try simp only [List.set_cons_zero, List.set_cons_succ] at M
    replace HM := Lib.hid M
    clear M
    obtain ⟨Ahb, hb⟩ := HM.out.get (r := cellsR (w.heap.size + 1 + 1) 22 [.int .i64 (mayE J x)]) (by repeat (first | with_reducible exact Pick.here | with_reducible apply Pick.there))
    have hc := hb.2.reads.1
    refine ⟨.int .i64 (mayE J x), by simp [results, Tryd.results14, go_sem, hc], ?_, ?_⟩
    · rw [HQ.out]
    · rw [HQ.out]; exact (HM.out.pick (r := judgeR b J) (by repeat (first | with_reducible exact Pick.here | with_reducible apply Pick.there))).upd
  case pos =>
    obtain ⟨en, pl, least, g, hkf, hlk⟩ : ∃ en pl least g, kindF x.kind = some (en, pl, least, g) ∧ lookI kindsD x.kind (kindU false false 0 .nilFunc) = (kindU en pl least (.func (.func g) #[] #[]), true) := by
      rcases look_kinds x.kind with ⟨hn, hk⟩ | h
      · unfold mayE at h0; rw [hn] at h0; cases h0
      · exact h
    rw [h0]
    have H0 := Lib.hid h0
    have HKF := Lib.hid hkf
    have HK := Lib.hid hlk
    have henter := kind_enters hkf
    clear h0 hkf hlk
    have fM := HM.out.facts
    simp only [List.filterMap_cons, List.filterMap_nil, cellsR_tag, winR_tag, factsL, apartL, and_true, List.cons_append, List.nil_append, talkR_tag, enR_tag, judgeR_tag] at fM
    go_wp2_with fail
    all_goals clear fM
    first | apply Mem.call | apply Mem.postD | apply Mem.stop | apply Mem.toUpd | apply Mem.list | apply Mem.code
    · repeat (first | with_reducible exact HM.out | with_reducible exact Pick.here | with_reducible apply Pick.there | with_reducible apply Mem.drew | with_reducible apply Mem.alloc | with_reducible apply Mem.set | with_reducible apply Mem.allocO | (simp only [World.size_alloc, World.size_setCell, World.size_drew]; with_reducible rfl) | with_reducible rfl)
    intro w3 M
    try simp only [List.set_cons_zero, List.set_cons_succ] at M
    replace HM := Lib.hid M
    clear M
    have hfk : ∀ W, (Instr.field 81 (.agg #[.bool en, .bool pl, .int .i64 least, .func (.func g) #[] #[]]) 3).run Tryd.prog W = .ok (.func (.func g) #[] #[]) W := fun _ => rfl
    have fM := HM.out.facts
    simp only [List.filterMap_cons, List.filterMap_nil, cellsR_tag, winR_tag, factsL, apartL, and_true, List.cons_append, List.nil_append, talkR_tag, enR_tag, judgeR_tag] at fM
    have hE0 : Keeps NoB w3 w3.drew := (Keeps.refl _ _).drew
    refine wp_region_planD [(0, 1), (1, 2), (1, 5), (1, 6), (2, 0), (2, 3), (0, 4)] [2, 5, 6] [0, 3, 7] [7] (ClsE w3) (by kernel_rfl) (by kernel_rfl) (by kernel_rfl) rfl rfl (ClsE.of hE0) (put_results 4 (results_cell Tryd.results14) (by kernel_rfl)) ?_; simp only [planL, List.getElem?_toArray, List.getElem?_cons_succ, List.getElem?_cons_zero]
    refine plan_pure rfl (fun K hK => quiet_run (v := ?_) (fun W _ => ?_) (hK _ ?_)); rotate_left; (go_simp <;> with_reducible rfl); clear hK K; simp only [Act.put, List.setIfInBounds_toArray, List.set_cons_zero, List.set_cons_succ]
    refine plan_load rfl (fun K hK => quiet_runE (v := ?_) (fun W => ?_) (hK _ ?_)); rotate_left; (go_simp <;> with_reducible rfl); clear hK K; simp only [Act.put, List.setIfInBounds_toArray, List.set_cons_zero, List.set_cons_succ]
    refine plan_load rfl (fun K hK => quiet_runE (v := ?_) (fun W => ?_) (hK _ ?_)); rotate_left; (go_simp <;> with_reducible rfl); clear hK K; simp only [Act.put, List.setIfInBounds_toArray, List.set_cons_zero, List.set_cons_succ]
    refine plan_load rfl (fun K hK => quiet_runE (v := ?_) (fun W => ?_) (hK _ ?_)); rotate_left; (go_simp <;> with_reducible rfl); clear hK K; simp only [Act.put, List.setIfInBounds_toArray, List.set_cons_zero, List.set_cons_succ]
    refine plan_does rfl (fun K hK => ?_)
    go_wp2_with fail
    refine (kinds_any _).mono ?_
    rintro r w4 ⟨m, rfl, hm, hE1, hm1⟩
    have hE : Ext w3 w4 := hE0.ext hE1
    have hk1 := look_at hm x.kind HIK.out false
    rw [HK.out] at hk1
    unfold kindU at hk1
    replace HM := Lib.hid (HM.out.ext hE)
    refine hK _ _ ⟨ClsE.of (by assumption), ?_⟩; clear hK K; try simp only [Act.put, List.setIfInBounds_toArray, List.set_cons_zero, List.set_cons_succ]
    refine plan_does rfl (fun K hK => ?_)
    go_wp2_with fail
    refine ⟨ClsE.of (by repeat (first | assumption | exact Keeps.refl _ _ | refine Keeps.alloc ?_ _ | refine Keeps.setOne ?_ _ _ | refine Keeps.setCell ?_ _ _ (.inl (by first | rfl | exact .inl rfl | exact .inr rfl | omega)) | refine Keeps.drew ?_)), ?_⟩; try simp only [Act.put, List.setIfInBounds_toArray, List.set_cons_zero, List.set_cons_succ]
    refine plan_pure rfl (fun K hK => quiet_run (v := ?_) (fun W _ => ?_) (hK _ ?_)); rotate_left; (go_simp <;> with_reducible rfl); clear hK K; simp only [Act.put, List.setIfInBounds_toArray, List.set_cons_zero, List.set_cons_succ]
    refine plan_nil ?_; simp only [tailL, List.filterMap_cons, List.filterMap_nil, List.getElem?_toArray, List.getElem?_cons_succ, List.getElem?_cons_zero]; change wpList _ _ _ (_ :: []) _ _
    go_wp2_with fail
    first | apply Mem.call | apply Mem.postD | apply Mem.stop | apply Mem.toUpd | apply Mem.list | apply Mem.code
    · repeat (first | with_reducible exact HM.out | with_reducible exact Pick.here | with_reducible apply Pick.there | with_reducible apply Mem.drew | with_reducible apply Mem.alloc | with_reducible apply Mem.set | with_reducible apply Mem.allocO | (simp only [World.size_alloc, World.size_setCell, World.size_drew]; with_reducible rfl) | with_reducible rfl)
    intro w5 M
    try simp only [List.set_cons_zero, List.set_cons_succ] at M
    replace HM := Lib.hid M
    clear M
    obtain ⟨A, hA, hAF, hS⟩ := (HM.out.pick (r := judgeR b J) (by repeat (first | with_reducible exact Pick.here | with_reducible apply Pick.there))).step'
    have hk1 := HM.out.keepsTo
    refine (kind_any w5 b J x en pl least g HKF.out H0.out hA HOK.out HO.out HI.out (fun h w2 h2 => HC.out h w2 (hk1.then h2 fun i hi h => by
      rcases hAF i h with h | h
      · exact h
      · omega))).mono ?_
    rintro r w6 ⟨rfl, hU⟩
    replace HM := Lib.hid (hS _ _ hU)
    clear hU hA hAF hS hk1
    clear A
    by_cases he : (kindsR J x).2 = 0
    · have hq : seeR J x = ((kindsR J x).1, 0) := by unfold seeR; rw [if_pos H0.out, if_pos he]
      have HQ := Lib.hid hq
      rw [doneE, if_pos he]
      clear he hq
      have fM := HM.out.facts
      simp only [List.filterMap_cons, List.filterMap_nil, cellsR_tag, winR_tag, factsL, apartL, and_true, List.cons_append, List.nil_append, talkR_tag, enR_tag, judgeR_tag] at fM
      go_wp2_with fail
      all_goals clear fM
      first | apply Mem.call | apply Mem.postD | apply Mem.stop | apply Mem.toUpd | apply Mem.list | apply Mem.code
      · repeat (first | with_reducible exact HM.out | with_reducible exact Pick.here | with_reducible apply Pick.there | with_reducible apply Mem.drew | with_reducible apply Mem.alloc | with_reducible apply Mem.set | with_reducible apply Mem.allocO | (simp only [World.size_alloc, World.size_setCell, World.size_drew]; with_reducible rfl) | with_reducible rfl)
      intro w7 M
      try simp only [List.set_cons_zero, List.set_cons_succ] at M
      replace HM := Lib.hid M
      clear M
      obtain ⟨Ahb, hb⟩ := HM.out.get (r := cellsR (w.heap.size + 1 + 1) 22 [.int .i64 0]) (by repeat (first | with_reducible exact Pick.here | with_reducible apply Pick.there))
      have hc := hb.2.reads.1
      refine leaves_cons (f := 29) (args := #[.pointer (some ⟨w.heap.size + 1 + 1, 0, none⟩), .pointer (some ⟨w.heap.size, 0, none⟩)]) (by intro h; cases h) (enters_of Tryd.func29 (by kernel_rfl) rfl _ _) ?_
      refine (catch_none w7 _ _).mono ?_
      rintro r u wq ⟨rfl, rfl, rfl⟩
      refine ⟨.int .i64 0, by simp [results, Tryd.results14, go_sem, hc], ?_, ?_⟩
      · rw [HQ.out]
      · rw [HQ.out]; exact (HM.out.pick (r := judgeR b (kindsR J x).1) (by repeat (first | with_reducible exact Pick.here | with_reducible apply Pick.there))).upd
    · have hq : seeR J x = ({ (kindsR J x).1 with broken := wrap64 ((kindsR J x).1.broken + 1) }, (kindsR J x).2) := by unfold seeR; rw [if_pos H0.out, if_neg he]
      have HQ := Lib.hid hq
      rw [doneE, if_neg he]
      unfold errE
      clear he hq
      obtain ⟨⟨tb, mb⟩, ⟨l9, l16⟩, M⟩ := (HM.out.pick (r := judgeR b (kindsR J x).1) (by repeat (first | with_reducible exact Pick.here | with_reducible apply Pick.there))).openJ
      replace HM := Lib.hid M
      clear M
      obtain ⟨Ahb, hb⟩ := HM.out.get (r := cellsR (w.heap.size + 1 + 1) 22 [.int .i64 0]) (by repeat (first | with_reducible exact Pick.here | with_reducible apply Pick.there))
      obtain ⟨Ahj, hj⟩ := HM.out.get (r := cellsR w.heap.size 39 [.pointer (some ⟨b, 0, none⟩)]) (by repeat (first | with_reducible exact Pick.here | with_reducible apply Pick.there))
      obtain ⟨Ahx, hx⟩ := HM.out.get (r := cellsR b 76 ((kindsR J x).1.cells tb mb)) (by repeat (first | with_reducible exact Pick.here | with_reducible apply Pick.there))
      have hbl := HBL.out
      have HL := Lib.hid (show _ ∧ _ from ⟨l9, l16⟩)
      refine leaves_cons (f := 29) (args := #[.pointer (some ⟨w.heap.size + 1 + 1, 0, none⟩), .pointer (some ⟨w.heap.size, 0, none⟩)]) (by intro h; cases h) (enters_of Tryd.func29 (by kernel_rfl) rfl _ _) ?_
      refine (catch_panic w6 _ _ b tb mb (kindsR J x).1 0 (kindsR J x).2 [] hb.2 hj.2 hx.2 l9 l16 (by omega) (by omega)).mono ?_
      clear hb hj hx l9 l16 hbl
      clear Ahb Ahj Ahx
      rintro r u wq ⟨rfl, rfl, rfl⟩
      show Leaves _ _ _ _ [] .returning _
      apply Mem.leaves
      · skip
        repeat (first | with_reducible exact HM.out | with_reducible exact Pick.here | with_reducible apply Pick.there | with_reducible apply Mem.drew | with_reducible apply Mem.alloc | with_reducible apply Mem.set | with_reducible apply Mem.allocO | (simp only [World.size_alloc, World.size_setCell, World.size_drew]; with_reducible rfl) | with_reducible rfl)
      intro w7 M
      simp only [List.set_cons_zero, List.set_cons_succ] at M
      rw [(kindsR J x).1.setBroken tb mb HL.out.1 HL.out.2] at M
      replace HM := Lib.hid M
      clear M
      obtain ⟨Ahb, hb⟩ := HM.out.get (r := cellsR (w.heap.size + 1 + 1) 22 [.int .i64 (kindsR J x).2]) (by repeat (first | with_reducible exact Pick.here | with_reducible apply Pick.there))
      have hc := hb.2.reads.1
      refine ⟨.int .i64 (kindsR J x).2, by simp [results, Tryd.results14, go_sem, hc], ?_, ?_⟩
      · rw [HQ.out]
      · rw [HQ.out]; exact Mem.shutJ HM.out HL.out.1 HL.out.2 (by repeat (first | with_reducible exact Pick.here | with_reducible apply Pick.there)) (by repeat (first | with_reducible exact Pick.here | with_reducible apply Pick.there)) (by repeat (first | with_reducible exact Pick.here | with_reducible apply Pick.there))
end Go.Proofs.YthhdgjofagdjeaaDoor
