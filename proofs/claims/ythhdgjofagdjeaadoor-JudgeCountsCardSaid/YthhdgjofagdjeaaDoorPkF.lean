/- Texts JSep, JX, JY, one behind the other. Conditions: as each says. -/
import Derived.Test.YthhdgjofagdjeaaDoorPkE
section
/- A talk and a judge as things in memory. No condition. -/
set_option linter.unusedVariables false
set_option linter.unusedSimpArgs false
namespace Go.Proofs.YthhdgjofagdjeaaDoor
open Go.RowKit

def talkR (b : Nat) (T : TA) : Res := anyR (fun F w => TalkX w F b T) (fun h hk hs => h.keeps hk hs) (fun h => let ⟨_, h⟩ := h; h.lt)
theorem talkR_tag {b : Nat} {T : TA} : (talkR b T).tag = none := rfl
theorem EnSet.box {w : World} {m : Nat} {D : List En} (h : EnSet w m D) : m < w.heap.size := h.lt
def enR (m : Nat) (D : List En) : Res := anyR (fun F w => (∀ k, F k ↔ k = m) ∧ EnSet w m D) (fun h hk hs => ⟨h.1, h.2.keeps hk (hs m ((h.1 m).2 rfl))⟩) (fun h k hk => by rw [(h.1 k).1 hk]; exact h.2.lt)
theorem enR_tag {m : Nat} {D : List En} : (enR m D).tag = none := rfl
def judgeR (b : Nat) (J : JA) : Res := anyR (fun F w => JudgeX w F b J) (fun h hk hs => h.keeps hk hs) (fun h => let ⟨_, _, _, h⟩ := h; h.lt)
theorem judgeR_tag {b : Nat} {J : JA} : (judgeR b J).tag = none := rfl
section
variable {F G : Nat → Prop} {w0 w : World} {L : List Res} {b tb mb : Nat} {J : JA}
theorem Mem.openJ (h : Mem F w0 w (judgeR b J :: L)) : ∃ x : Nat × Nat, (J.told.length = 9 ∧ J.next.length = 16) ∧ Mem F w0 w (cellsR b 76 (J.cells x.1 x.2) :: talkR x.1 J.T :: enR x.2 J.put :: L) := by
  have hl : J.told.length = 9 ∧ J.next.length = 16 := h.fact fun A ⟨_, _, _, h⟩ => ⟨h.l9, h.l16⟩
  obtain ⟨x, hx⟩ := h.openE (M := fun x : Nat × Nat => [cellsR b 76 (J.cells x.1 x.2), talkR x.1 J.T, enR x.2 J.put]) (fun A ⟨Ft, tb, mb, h⟩ =>
    ⟨(tb, mb), fun k => k = b ∨ Ft k ∨ k = mb, ⟨fun k => k = b, fun k => Ft k ∨ k = mb, ⟨fun _ => Iff.rfl, h.box⟩, ⟨Ft, fun k => k = mb, h.talk, ⟨fun k => k = mb, fun _ => False, ⟨fun _ => Iff.rfl, h.map⟩, fun _ h => h, fun _ _ h => h, fun k => ⟨.inl, fun h => h.resolve_right id⟩⟩, fun k hk h9 => h.nm (by rw [← h9]; exact hk), fun k => Iff.rfl⟩, fun k hk h9 => by
      rcases h9 with h9 | h9
      · exact h.nb (by rw [← hk]; exact h9)
      · exact h.bm (by rw [← hk, ← h9]), fun k => Iff.rfl⟩, fun k hk => by
      rcases hk with rfl | hk | rfl
      · exact h.fb
      · exact h.ft k hk
      · exact h.fm⟩)
  exact ⟨x, hl, hx⟩
theorem Mem.closeJ (h : Mem F w0 w (cellsR b 76 (J.cells tb mb) :: talkR tb J.T :: enR mb J.put :: L)) (h9 : J.told.length = 9) (h16 : J.next.length = 16) : Mem F w0 w (judgeR b J :: L) := by
  refine Mem.close (L1 := [cellsR b 76 (J.cells tb mb), talkR tb J.T, enR mb J.put]) h fun A ⟨B, C, ⟨b1, b2⟩, ⟨D, E, d1, ⟨G, H, ⟨g1, g2⟩, g3, g4, g5⟩, d3, d4⟩, c3, c4⟩ => ?_
  have eA : ∀ k, A k ↔ k = b ∨ D k ∨ k = mb := fun k => by
    rw [c4 k, b1 k, d4 k, g5 k, g1 k]
    constructor
    · rintro (h | h | h | h)
      · exact .inl h
      · exact .inr (.inl h)
      · exact .inr (.inr h)
      · exact (g3 k h).elim
    · rintro (h | h | h)
      · exact .inl h
      · exact .inr (.inl h)
      · exact .inr (.inr (.inl h))
  refine ⟨D, tb, mb, b2, d1, g2, (eA b).2 (.inl rfl), (eA mb).2 (.inr (.inr rfl)), fun k hk => (eA k).2 (.inr (.inl hk)), fun h => c3 b ((b1 b).2 rfl) ((d4 b).2 (.inl h)), fun h => d3 mb h ((g5 mb).2 (.inl ((g1 mb).2 rfl))), fun h => c3 b ((b1 b).2 rfl) ((d4 b).2 (.inr ((g5 b).2 (.inl ((g1 b).2 h))))), fun k hk => ?_, h9, h16⟩
  rcases (eA k).1 hk with rfl | h | rfl
  · exact b2.lt
  · obtain ⟨_, d⟩ := d1
    exact d.lt k h
  · exact g2.lt
theorem Mem.shutJ {L1 L2 L3 : List Res} (h : Mem F w0 w L) (l9 : J.told.length = 9) (l16 : J.next.length = 16) (p1 : Pick L (enR mb J.put) L1) (p2 : Pick L1 (talkR tb J.T) L2) (p3 : Pick L2 (cellsR b 76 (J.cells tb mb)) L3) : Upd F w0 w (judgeR b J) :=
  (Mem.closeJ (((h.pick p1).pick (.there p2)).pick (.there (.there p3))) l9 l16).upd
end
end Go.Proofs.YthhdgjofagdjeaaDoor
end
section
/- What a judge does with a thing seen: a place told a line. Condition: the judge lies as 'JudgeX' says; the place is one of nine; of an entry that says something, that text.Check answers as the document's. -/
set_option linter.unusedVariables false
set_option linter.unusedSimpArgs false
set_option maxHeartbeats 2000000
set_option maxRecDepth 10000
namespace Go.Proofs.YthhdgjofagdjeaaDoor
open Go.RowKit

def errE (n : Int) : Ending := .panicked [{ v := .iface 22 (.int .i64 n), recovered := false }]
def mustE (x : Bool) (n : Int) : Ending := if x then .returned (.tuple #[]) else errE n
def doneE (n : Int) : Ending := if n = 0 then .returned (.tuple #[]) else errE n
theorem must_1 (w : World) (b : Nat) (n : Int) (x : Bool) (hb : Box w b 4 [.bool x]) : Calls Tryd.prog 45 #[.int .i64 n, .slice (some ⟨b, 0, none⟩) 1 1] w fun e w' => e = mustE x n ∧ w' = w := by
  cases x
  · exact must_bad_1 w b n false true hb rfl
  · exact must_ok_1 w b n true true hb rfl
theorem must_2 (w : World) (b : Nat) (n : Int) (x y : Bool) (hb : Box w b 4 [.bool x, .bool y]) : Calls Tryd.prog 45 #[.int .i64 n, .slice (some ⟨b, 0, none⟩) 2 2] w fun e w' => e = mustE (x && y) n ∧ w' = w := by
  cases h : x && y
  · exact must_bad_2 w b n x y hb h
  · exact must_ok_2 w b n x y hb h
theorem JA.setTold (J : JA) (tb mb : Nat) (h9 : J.told.length = 9) (p : Nat) (hp : p < 9) (n : Int) : (J.cells tb mb).set p (.int .i64 n) = ({ J with told := J.told.set p n } : JA).cells tb mb := by
  unfold JA.cells
  rw [List.set_append_left _ _ (by rw [List.length_map]; omega), List.map_set]
  rfl
theorem JA.setNext (J : JA) (tb mb : Nat) (h9 : J.told.length = 9) (h16 : J.next.length = 16) (p : Nat) (hp : p < 16) (n : Int) : (J.cells tb mb).set (9 + p) (.int .i64 n) = ({ J with next := J.next.set p n } : JA).cells tb mb := by
  have a1 : (J.told.map iV).length = 9 := by rw [List.length_map, h9]
  have a2 : (J.next.map iV).length = 16 := by rw [List.length_map, h16]
  unfold JA.cells
  rw [List.set_append_right _ _ (by omega), a1, show 9 + p - 9 = p by omega, List.set_append_left _ _ (by omega), List.map_set]
  rfl
def lineR (J : JA) (p : Nat) (index : Int) (e : En) : JA × Int :=
  if ¬ index = J.told.getD p 0 then (J, 403)
  else if index < (J.T.l.length : Int) then (if hasB J.T.l index e = true then ({ J with told := J.told.set p (index + 1) }, 0) else (J, 400))
  else if ¬ e ∈ J.put then (J, 401)
  else if J.T.slot < 4096 ∧ (enB e && (countsR J.T e).2) = true then ({ J with T := J.T.put e, told := J.told.set p (index + 1) }, 0) else (J, 402)
theorem line_any {F : Nat → Prop} (w : World) (b : Nat) (J : JA) (kind : Int) (p : Nat) (index : Int) (e : En) (h : JudgeX w F b J) (hp : p < 9) (hi0 : 0 ≤ index) (hi1 : J.told.getD p 0 ≤ J.T.l.length) (hl : J.T.l.length ≤ 4096) (hs0 : 0 ≤ J.T.slot) (ho : OkE e) (hI : I64 e.kind)
    (hC : e.kind = 4 → ∀ w1, Keeps F w w1 → Calls Tryd.prog 65 #[.string (bs e.text)] w1 fun r w' => r = .returned (.int .i64 (chk e.text : Int)) ∧ Ext w1 w') :
    Calls Tryd.prog 46 #[.pointer (some ⟨b, 0, none⟩), (⟨kind, p, index, e⟩ : Sn).v] w fun r w' => r = doneE (lineR J p index e).2 ∧ Upd F w w' (judgeR b (lineR J p index e).1) := by
  obtain ⟨⟨tb, mb⟩, ⟨l9, l16⟩, M⟩ := (Mem.start (r := judgeR b J) h).openJ
  have HM := Lib.hid M
  clear M h
  obtain ⟨h1, -, c25, c26, c27, c28, c29⟩ := J.at tb mb l9 l16
  obtain ⟨n, hn⟩ : ∃ n, J.told.getD p 0 = n := ⟨_, rfl⟩
  have cp : (J.cells tb mb)[p]? = some (.int .i64 n) := by
    rw [h1 p hp, ← hn, List.getD_eq_getElem?_getD, List.getElem?_eq_getElem (by omega)]; rfl
  rw [hn] at hi1
  have g1 : (p : Int) < 9 := by omega
  have g2 : ¬ (p : Int) < 0 := by omega
  have HX := Lib.hid (show _ ∧ _ ∧ _ ∧ _ ∧ _ ∧ _ ∧ _ from ⟨hp, hi0, hi1, hl, hs0, ho, hI⟩)
  have HN := Lib.hid hn
  have HC := Lib.hid hC
  have HL := Lib.hid (show _ ∧ _ from ⟨l9, l16⟩)
  clear h1 hp hi0 hi1 hl hs0 ho hI hC l9 l16 hn c25 c26 c27
  unfold Sn.v
  go_enter Tryd.func46, Tryd.ntmps46
  have fM := HM.out.fa
  go_wp2_with fail
  all_goals clear fM
  refine nxt HM fun w0 M => ?_
  clear HM; have HM := M; clear M
  have fM := HM.out.fa
  have hE0 : Keeps NoB w0 w0.drew := (Keeps.refl _ _).drew
  refine wp_region_plan [(0, 0), (3, 1), (0, 2), (0, 3), (3, 4), (0, 5), (0, 6), (0, 7), (0, 8), (3, 9), (0, 10)] [] [11, 12] [11, 12] (ClsE w0) (by kernel_rfl) (by kernel_rfl) (by kernel_rfl) rfl rfl (ClsE.of hE0) (fun _ _ _ d _ h => by cases d <;> exact h) ?_; simp only [planL, nL]
  refine pR (v := ?_) rfl (fun W => ?_) ?_; rotate_left; (go_simp <;> with_reducible rfl); simp only [nP]
  refine pX (v := ?_) rfl ?_ ?_; rotate_left; (go_simp <;> with_reducible rfl); simp only [nP]
  refine pM _ rfl rfl ?_; simp only [nP, nE]
  refine pR (v := ?_) rfl (fun W => ?_) ?_; rotate_left; (go_simp <;> with_reducible rfl); simp only [nP]
  refine pX (v := ?_) rfl ?_ ?_; rotate_left; (go_simp <;> with_reducible rfl); simp only [nP]
  iterate 4 (refine pR (v := ?_) rfl (fun W => ?_) ?_; rotate_left; (go_simp <;> with_reducible rfl); simp only [nP])
  refine pX (v := ?_) rfl ?_ ?_; rotate_left; (go_simp <;> with_reducible rfl); simp only [nP]
  refine pR (v := ?_) rfl (fun W => ?_) ?_; rotate_left; (go_simp <;> with_reducible rfl); simp only [nP]
  refine plan_nil ?_; simp only [tailL, List.filterMap_cons, List.filterMap_nil, nL]; change wpList _ _ _ (_ :: _ :: []) _ _
  go_wp2_with fail
  clear fM
  refine nxt HM fun w1 M => ?_
  clear HM; have HM := M; clear M
  obtain ⟨Ahb, hb⟩ := HM.out.get (r := cellsR w0.heap.size 4 [.bool (index == n)]) (by with_reducible repeat first | exact ph | apply pt)
  refine (must_1 w1 _ 403 _ hb.2).mono ?_
  rintro r w' ⟨rfl, rfl⟩
  replace HM := Lib.hid (HM.out.pick (r := cellsR w0.heap.size 4 [.bool (index == n)]) (by with_reducible repeat first | exact ph | apply pt)).drop
  clear hb
  cases hx : index == n
  · simp only [mustE, Bool.false_eq_true, if_false, errE]
    go_wp2_with fail
    have hq : lineR J p index e = (J, 403) := by unfold lineR; rw [if_pos (by rw [HN.out]; simpa using hx)]
    rw [hq]
    exact ⟨rfl, rfl, HM.out.shutJ (J := J) (tb := tb) (mb := mb) HL.out.1 HL.out.2 (by with_reducible repeat first | exact ph | apply pt) (by with_reducible repeat first | exact ph | apply pt) (by with_reducible repeat first | exact ph | apply pt)⟩
  obtain rfl : index = n := by simpa using hx
  clear hx
  simp only [mustE, if_true]
  have fM := HM.out.fa
  go_wp2_with fail
  all_goals clear fM
  have e1 : J.told.getD p 0 = index := HN.out
  obtain ⟨hp, hi0, hi1, hl, hs0, ho, hI⟩ := HX.out
  have hww : wrap64 (index + 1) = index + 1 := IntWalk.wrap64_in _ (by omega)
  have HW := Lib.hid hww
  clear hww
  by_cases h2 : index < (J.T.l.length : Int)
  · clear hp hi0 hi1 hs0 ho hI e1
    refine nxt HM fun w2 M => ?_
    clear HM; have HM := M; clear M
    obtain ⟨Aht, ht⟩ := HM.out.get (r := talkR tb J.T) (by with_reducible repeat first | exact ph | apply pt)
    have HT := Lib.hid ht
    clear ht
    have fM := HM.out.fa
    have hE0 : Keeps NoB w2 w2.drew := (Keeps.refl _ _).drew
    refine wp_region_plan [(0, 0), (1, 1), (0, 2), (0, 3), (0, 4), (3, 5), (2, 6), (0, 7)] [1] [6] [] (ClsE w2) (by kernel_rfl) (by kernel_rfl) (by kernel_rfl) rfl rfl (ClsE.of hE0) (fun _ _ _ d _ h => by cases d <;> exact h) ?_; simp only [planL, nL]
    refine pR (v := ?_) rfl (fun W => ?_) ?_; rotate_left; (go_simp <;> with_reducible rfl); simp only [nP]
    refine pL (v := ?_) rfl (fun W => ?_) ?_; rotate_left; (go_simp <;> with_reducible rfl); simp only [nP]
    refine pM _ rfl rfl ?_; simp only [nP, nE]
    iterate 2 (refine pR (v := ?_) rfl (fun W => ?_) ?_; rotate_left; (go_simp <;> with_reducible rfl); simp only [nP])
    refine pX (v := ?_) rfl ?_ ?_; rotate_left; (go_simp <;> with_reducible rfl); simp only [nP]
    refine plan_does rfl (fun K hK => ?_)
    go_wp2_with fail
    refine (talk_len _ tb J.T (HT.out.ext hE0)).mono ?_
    rintro r w3 ⟨rfl, rfl⟩
    refine hK _ _ ⟨ClsE.of (by assumption), ?_⟩; clear hK K; try simp only [nP]
    refine pR (v := ?_) rfl (fun W => ?_) ?_; rotate_left; (go_simp <;> with_reducible rfl); simp only [nP]
    refine plan_nil ?_; simp only [tailL, List.filterMap_nil]
    go_wp2_with fail
    clear fM
    clear hE0
    refine nxt HM fun w3 M => ?_
    clear HM; have HM := M; clear M
    obtain ⟨A, hA, -⟩ := HM.out.shutJ (b := b) (J := J) (tb := tb) (mb := mb) HL.out.1 HL.out.2 (by with_reducible repeat first | exact ph | apply pt) (by with_reducible repeat first | exact ph | apply pt) (by with_reducible repeat first | exact ph | apply pt)
    refine (has_any w3 b J index e hA hl).mono ?_
    rintro r w4 ⟨rfl, hE4⟩
    replace HM := Lib.hid (HM.out.ext hE4)
    clear hE4 hl hA A HT
    have fM := HM.out.fa
    go_wp2_with fail
    all_goals clear fM
    refine nxt HM fun w5 M => ?_
    clear HM; have HM := M; clear M
    obtain ⟨Ahb, hb⟩ := HM.out.get (r := cellsR w4.heap.size 4 [.bool (hasB J.T.l index e)]) (by with_reducible repeat first | exact ph | apply pt)
    refine (must_1 w5 _ 400 _ hb.2).mono ?_
    rintro r w' ⟨rfl, rfl⟩
    replace HM := Lib.hid (HM.out.pick (r := cellsR w4.heap.size 4 [.bool (hasB J.T.l index e)]) (by with_reducible repeat first | exact ph | apply pt)).drop
    clear hb
    cases hx : hasB J.T.l index e
    · simp only [mustE, Bool.false_eq_true, if_false, errE]
      go_wp2_with fail
      have hq : lineR J p index e = (J, 400) := by unfold lineR; rw [if_neg (by simpa using HN.out.symm), if_pos h2, if_neg (by rw [hx]; simp)]
      rw [hq]
      exact ⟨rfl, rfl, HM.out.shutJ (J := J) (tb := tb) (mb := mb) HL.out.1 HL.out.2 (by with_reducible repeat first | exact ph | apply pt) (by with_reducible repeat first | exact ph | apply pt) (by with_reducible repeat first | exact ph | apply pt)⟩
    simp only [mustE, if_true]
    have hq : lineR J p index e = ({ J with told := J.told.set p (index + 1) }, 0) := by unfold lineR; rw [if_neg (by simpa using HN.out.symm), if_pos h2, if_pos hx]
    have HQ := Lib.hid hq
    clear h2 hx hq
    go_wp2_with fail
    refine nxt HM fun w6 M => ?_
    clear HM; have HM := M; clear M
    have fM := HM.out.fa
    have hE0 : Keeps (OneB b) w6 w6.drew := (Keeps.refl _ _).drew
    refine wp_region_plan [(0, 0), (0, 1), (3, 2), (0, 3), (0, 4), (0, 5), (0, 6), (3, 7), (0, 8), (0, 9), (0, 10), (0, 11), (0, 12)] [] [13] [13] (ClsK (OneB b) w6) (by kernel_rfl) (by kernel_rfl) (by kernel_rfl) rfl rfl (ClsK.of hE0) (fun _ _ _ d _ h => by cases d <;> exact h) ?_; simp only [planL, nL]
    refine pM _ rfl rfl ?_; simp only [nP, nE]
    refine pR (v := ?_) rfl (fun W => ?_) ?_; rotate_left; (go_simp <;> with_reducible rfl); simp only [nP]
    refine pX (v := ?_) rfl ?_ ?_; rotate_left; (go_simp <;> with_reducible rfl); simp only [nP]
    iterate 4 (refine pR (v := ?_) rfl (fun W => ?_) ?_; rotate_left; (go_simp <;> with_reducible rfl); simp only [nP])
    refine pX (v := ?_) rfl ?_ ?_; rotate_left; (go_simp <;> with_reducible rfl); simp only [nP]
    iterate 5 (refine pR (v := ?_) rfl (fun W => ?_) ?_; rotate_left; (go_simp <;> with_reducible rfl); simp only [nP])
    refine plan_nil ?_; simp only [tailL, List.filterMap_cons, List.filterMap_nil, nL]; change wpList _ _ _ (_ :: []) _ _
    go_wp2_with fail
    clear fM
    clear hE0
    go_end0
    rw [HQ.out, HW.out]
    refine ⟨rfl, ?_⟩
    refine nxt HM fun w7 M => ?_
    clear HM; have HM := M; clear M
    rw [J.setTold tb mb HL.out.1 p HX.out.1] at HM
    exact (HM.out.shutJ (J := { J with told := J.told.set p (index + 1) }) (tb := tb) (mb := mb) (by simpa using HL.out.1) HL.out.2 (by with_reducible repeat first | exact ph | apply pt) (by with_reducible repeat first | exact ph | apply pt) (by with_reducible repeat first | exact ph | apply pt))
  · have HE2 := Lib.hid h2
    have HD := Lib.hid (show ¬ ¬ index = J.told.getD p 0 from fun h => h e1.symm)
    clear hp hi0 hi1 hs0 ho hI e1 hl
    refine nxt HM fun w2 M => ?_
    clear HM; have HM := M; clear M
    obtain ⟨Aht, ht⟩ := HM.out.get (r := talkR tb J.T) (by with_reducible repeat first | exact ph | apply pt)
    have HT := Lib.hid ht
    clear ht
    have fM := HM.out.fa
    have hE0 : Keeps NoB w2 w2.drew := (Keeps.refl _ _).drew
    refine wp_region_plan [(0, 0), (1, 1), (0, 2), (0, 3), (0, 4), (3, 5), (2, 6), (0, 7)] [1] [6] [] (ClsE w2) (by kernel_rfl) (by kernel_rfl) (by kernel_rfl) rfl rfl (ClsE.of hE0) (fun _ _ _ d _ h => by cases d <;> exact h) ?_; simp only [planL, nL]
    refine pR (v := ?_) rfl (fun W => ?_) ?_; rotate_left; (go_simp <;> with_reducible rfl); simp only [nP]
    refine pL (v := ?_) rfl (fun W => ?_) ?_; rotate_left; (go_simp <;> with_reducible rfl); simp only [nP]
    refine pM _ rfl rfl ?_; simp only [nP, nE]
    iterate 2 (refine pR (v := ?_) rfl (fun W => ?_) ?_; rotate_left; (go_simp <;> with_reducible rfl); simp only [nP])
    refine pX (v := ?_) rfl ?_ ?_; rotate_left; (go_simp <;> with_reducible rfl); simp only [nP]
    refine plan_does rfl (fun K hK => ?_)
    go_wp2_with fail
    refine (talk_len _ tb J.T (HT.out.ext hE0)).mono ?_
    rintro r w3 ⟨rfl, rfl⟩
    refine hK _ _ ⟨ClsE.of (by assumption), ?_⟩; clear hK K; try simp only [nP]
    refine pR (v := ?_) rfl (fun W => ?_) ?_; rotate_left; (go_simp <;> with_reducible rfl); simp only [nP]
    refine plan_nil ?_; simp only [tailL, List.filterMap_nil]
    go_wp2_with fail
    clear fM
    clear hE0 h2 HT
    refine nxt HM fun w3 M => ?_
    clear HM; have HM := M; clear M
    obtain ⟨Ahm, hm⟩ := HM.out.get (r := enR mb J.put) (by with_reducible repeat first | exact ph | apply pt)
    have hk := run_enhas (hm.2.ext (Ext.drew0 w3)) HX.out.2.2.2.2.2.1
    unfold En.v at hk
    clear hm
    have fM := HM.out.fa
    have hE0 : Keeps NoB w3 w3.drew := (Keeps.refl _ _).drew
    refine wp_region_plan [(0, 0), (0, 1), (0, 2), (3, 3), (0, 4), (3, 5), (3, 6)] [] [7, 8] [7, 8] (ClsE w3) (by kernel_rfl) (by kernel_rfl) (by kernel_rfl) rfl rfl (ClsE.of hE0) (fun _ _ _ d _ h => by cases d <;> exact h) ?_; simp only [planL, nL]
    refine pM _ rfl rfl ?_; simp only [nP, nE]
    iterate 2 (refine pR (v := ?_) rfl (fun W => ?_) ?_; rotate_left; (go_simp <;> with_reducible rfl); simp only [nP])
    refine pX (v := ?_) rfl ?_ ?_; rotate_left; (go_simp <;> with_reducible rfl); simp only [nP]
    refine pR (v := ?_) rfl (fun W => ?_) ?_; rotate_left; (go_simp <;> with_reducible rfl); simp only [nP]
    iterate 2 (refine pX (v := ?_) rfl ?_ ?_; rotate_left; (go_simp <;> with_reducible rfl); simp only [nP])
    refine plan_nil ?_; simp only [tailL, List.filterMap_cons, List.filterMap_nil, nL]; change wpList _ _ _ (_ :: _ :: []) _ _
    go_wp2_with fail
    clear fM
    clear hk hE0
    refine nxt HM fun w4 M => ?_
    clear HM; have HM := M; clear M
    obtain ⟨Ahb, hb⟩ := HM.out.get (r := cellsR w3.heap.size 4 [.bool (decide (e ∈ J.put))]) (by with_reducible repeat first | exact ph | apply pt)
    refine (must_1 w4 _ 401 _ hb.2).mono ?_
    rintro r w' ⟨rfl, rfl⟩
    replace HM := Lib.hid (HM.out.pick (r := cellsR w3.heap.size 4 [.bool (decide (e ∈ J.put))]) (by with_reducible repeat first | exact ph | apply pt)).drop
    clear hb
    by_cases hx : e ∈ J.put
    case neg =>
      rw [decide_eq_false hx]
      simp only [mustE, Bool.false_eq_true, if_false, errE]
      go_wp2_with fail
      have hq : lineR J p index e = (J, 401) := by unfold lineR; rw [if_neg HD.out, if_neg (by have := HE2.out; omega), if_pos hx]
      rw [hq]
      exact ⟨rfl, rfl, HM.out.shutJ (J := J) (tb := tb) (mb := mb) HL.out.1 HL.out.2 (by with_reducible repeat first | exact ph | apply pt) (by with_reducible repeat first | exact ph | apply pt) (by with_reducible repeat first | exact ph | apply pt)⟩
    rw [decide_eq_true hx]
    simp only [mustE, if_true]
    have HP := Lib.hid hx
    clear hx
    go_wp2_with fail
    refine nxt HM fun w5 M => ?_
    clear HM; have HM := M; clear M
    obtain ⟨Aht, ht⟩ := HM.out.get (r := talkR tb J.T) (by with_reducible repeat first | exact ph | apply pt)
    have HT := Lib.hid ht
    clear ht
    have HE5 := Lib.hid HM.out.keepsTo
    have fM := HM.out.fa
    have hE0 : Keeps NoB w5 w5.drew := (Keeps.refl _ _).drew
    refine wp_region_plan [(0, 0), (0, 1), (0, 2), (3, 3), (0, 6), (0, 7), (0, 8), (1, 9), (0, 10), (1, 11), (2, 4), (0, 5)] [9, 11] [4, 12, 13, 14] [12, 13, 14] (ClsE w5) (by kernel_rfl) (by kernel_rfl) (by kernel_rfl) rfl rfl (ClsE.of hE0) (fun _ _ _ d _ h => by cases d <;> exact h) ?_; simp only [planL, nL]
    refine pM _ rfl rfl ?_; simp only [nP, nE]
    iterate 2 (refine pR (v := ?_) rfl (fun W => ?_) ?_; rotate_left; (go_simp <;> with_reducible rfl); simp only [nP])
    refine pX (v := ?_) rfl ?_ ?_; rotate_left; (go_simp <;> with_reducible rfl); simp only [nP]
    refine pM _ rfl rfl ?_; simp only [nP, nE]
    iterate 2 (refine pR (v := ?_) rfl (fun W => ?_) ?_; rotate_left; (go_simp <;> with_reducible rfl); simp only [nP])
    refine pL (v := ?_) rfl (fun W => ?_) ?_; rotate_left; (go_simp <;> with_reducible rfl); simp only [nP]
    refine pR (v := ?_) rfl (fun W => ?_) ?_; rotate_left; (go_simp <;> with_reducible rfl); simp only [nP]
    refine pL (v := ?_) rfl (fun W => ?_) ?_; rotate_left; (go_simp <;> with_reducible rfl); simp only [nP]
    refine plan_does rfl (fun K hK => ?_)
    go_wp2_with fail
    refine (talk_slot _ tb J.T (HT.out.ext hE0)).mono ?_
    rintro r w6 ⟨rfl, rfl⟩
    refine hK _ _ ⟨ClsE.of (by assumption), ?_⟩; clear hK K; try simp only [nP]
    refine pR (v := ?_) rfl (fun W => ?_) ?_; rotate_left; (go_simp <;> with_reducible rfl); simp only [nP]
    refine plan_nil ?_; simp only [tailL, List.filterMap_cons, List.filterMap_nil, nL]; change wpList _ _ _ (_ :: _ :: _ :: []) _ _
    go_wp2_with fail
    refine (would_any _ tb J.T e (HT.out.ext hE0) HX.out.2.2.2.2.2.2 (fun h w1 h1 => HC.out h w1 ((HE5.out.ext hE0).ext h1))).mono ?_
    rintro r w6 ⟨rfl, hE6⟩
    have hE5 : Ext w5 w6 := hE0.ext hE6
    replace HM := Lib.hid (HM.out.ext hE5)
    go_wp2_with fail
    clear fM
    clear hE0 hE5 hE6 HT HE5
    refine nxt HM fun w7 M => ?_
    clear HM; have HM := M; clear M
    obtain ⟨Ahb, hb⟩ := HM.out.get (r := cellsR w6.heap.size 4 [.bool (decide (J.T.slot < 4096)), .bool (enB e && (countsR J.T e).2)]) (by with_reducible repeat first | exact ph | apply pt)
    refine (must_2 w7 _ 402 _ _ hb.2).mono ?_
    rintro r w' ⟨rfl, rfl⟩
    replace HM := Lib.hid (HM.out.pick (r := cellsR w6.heap.size 4 [.bool (decide (J.T.slot < 4096)), .bool (enB e && (countsR J.T e).2)]) (by with_reducible repeat first | exact ph | apply pt)).drop
    clear hb
    have hq0 : lineR J p index e = if J.T.slot < 4096 ∧ (enB e && (countsR J.T e).2) = true then ({ J with T := J.T.put e, told := J.told.set p (index + 1) }, 0) else (J, 402) := by
      unfold lineR; rw [if_neg HD.out, if_neg (by have := HE2.out; omega), if_neg (fun h => h HP.out)]
    by_cases hx : J.T.slot < 4096 ∧ (enB e && (countsR J.T e).2) = true
    case neg =>
      have hd : (decide (J.T.slot < 4096) && (enB e && (countsR J.T e).2)) = false := by
        cases h : decide (J.T.slot < 4096)
        · rfl
        · cases h' : (enB e && (countsR J.T e).2)
          · rfl
          · exact (hx ⟨of_decide_eq_true h, h'⟩).elim
      rw [hd]
      simp only [mustE, Bool.false_eq_true, if_false, errE]
      go_wp2_with fail
      rw [if_neg hx] at hq0
      rw [hq0]
      exact ⟨rfl, rfl, HM.out.shutJ (J := J) (tb := tb) (mb := mb) HL.out.1 HL.out.2 (by with_reducible repeat first | exact ph | apply pt) (by with_reducible repeat first | exact ph | apply pt) (by with_reducible repeat first | exact ph | apply pt)⟩
    rw [if_pos hx] at hq0
    have HQ := Lib.hid hq0
    rw [decide_eq_true hx.1, hx.2]
    simp only [mustE, Bool.true_and, if_true]
    have HH := Lib.hid hx
    clear hx hq0
    go_wp2_with fail
    refine nxt HM fun w8 M => ?_
    clear HM; have HM := M; clear M
    obtain ⟨Aht, ht⟩ := HM.out.get (r := talkR tb J.T) (by with_reducible repeat first | exact ph | apply pt)
    have HT := Lib.hid ht
    clear ht
    have fM := HM.out.fa
    have hE0 : Keeps NoB w8 w8.drew := (Keeps.refl _ _).drew
    refine wp_region_plan [(0, 0), (0, 1), (0, 2), (1, 3), (0, 4), (0, 5), (0, 6), (3, 7), (0, 9), (1, 10), (2, 8)] [3, 10] [8, 11] [11] (ClsE w8) (by kernel_rfl) (by kernel_rfl) (by kernel_rfl) rfl rfl (ClsE.of hE0) (fun _ _ _ d _ h => by cases d <;> exact h) ?_; simp only [planL, nL]
    refine pM _ rfl rfl ?_; simp only [nP, nE]
    iterate 2 (refine pR (v := ?_) rfl (fun W => ?_) ?_; rotate_left; (go_simp <;> with_reducible rfl); simp only [nP])
    refine pL (v := ?_) rfl (fun W => ?_) ?_; rotate_left; (go_simp <;> with_reducible rfl); simp only [nP]
    refine pM _ rfl rfl ?_; simp only [nP, nE]
    iterate 2 (refine pR (v := ?_) rfl (fun W => ?_) ?_; rotate_left; (go_simp <;> with_reducible rfl); simp only [nP])
    refine pX (v := ?_) rfl ?_ ?_; rotate_left; (go_simp <;> with_reducible rfl); simp only [nP]
    refine pR (v := ?_) rfl (fun W => ?_) ?_; rotate_left; (go_simp <;> with_reducible rfl); simp only [nP]
    refine pL (v := ?_) rfl (fun W => ?_) ?_; rotate_left; (go_simp <;> with_reducible rfl); simp only [nP]
    refine plan_does rfl (fun K hK => ?_)
    go_wp2_with fail
    refine (talk_slot _ tb J.T (HT.out.ext hE0)).mono ?_
    rintro r w9 ⟨rfl, rfl⟩
    refine hK _ _ ⟨ClsE.of (by assumption), ?_⟩; clear hK K; try simp only [nP]
    refine plan_nil ?_; simp only [tailL, List.filterMap_cons, List.filterMap_nil, nL]; change wpList _ _ _ (_ :: []) _ _
    go_wp2_with fail
    clear fM
    clear hE0
    refine nxt HM fun w9 M => ?_
    clear HM; have HM := M; clear M
    have hk9 := HM.out.keepsTo
    obtain ⟨A, hA, hup⟩ := (HM.out.pick (r := talkR tb J.T) (by with_reducible repeat first | exact ph | apply pt)).step
    obtain ⟨h1, h2⟩ := HH.out
    rw [Bool.and_eq_true] at h2
    refine (apply_ok w9 tb J.T e hA HX.out.2.2.2.2.2.2 h2.1 h2.2 HX.out.2.2.2.2.1 h1 HX.out.2.2.2.1 (fun h w1 h1 => HC.out h w1 (hk9.ext h1))).mono ?_
    rintro r w10 ⟨F', rfl, u1, u2, u3⟩
    replace HM := Lib.hid (hup (talkR tb (J.T.put e)) w10 ⟨F', u1, u2, u3⟩)
    clear hup hA u1 u2 u3 h1 h2 hk9
    go_wp2_with fail
    refine nxt HM fun w6 M => ?_
    clear HM; have HM := M; clear M
    have fM := HM.out.fa
    have hE0 : Keeps (OneB b) w6 w6.drew := (Keeps.refl _ _).drew
    refine wp_region_plan [(0, 0), (0, 1), (3, 2), (0, 3), (0, 4), (0, 5), (0, 6), (3, 7), (0, 8), (0, 9), (0, 10), (0, 11), (0, 12)] [] [13] [13] (ClsK (OneB b) w6) (by kernel_rfl) (by kernel_rfl) (by kernel_rfl) rfl rfl (ClsK.of hE0) (fun _ _ _ d _ h => by cases d <;> exact h) ?_; simp only [planL, nL]
    refine pM _ rfl rfl ?_; simp only [nP, nE]
    refine pR (v := ?_) rfl (fun W => ?_) ?_; rotate_left; (go_simp <;> with_reducible rfl); simp only [nP]
    refine pX (v := ?_) rfl ?_ ?_; rotate_left; (go_simp <;> with_reducible rfl); simp only [nP]
    iterate 4 (refine pR (v := ?_) rfl (fun W => ?_) ?_; rotate_left; (go_simp <;> with_reducible rfl); simp only [nP])
    refine pX (v := ?_) rfl ?_ ?_; rotate_left; (go_simp <;> with_reducible rfl); simp only [nP]
    iterate 5 (refine pR (v := ?_) rfl (fun W => ?_) ?_; rotate_left; (go_simp <;> with_reducible rfl); simp only [nP])
    refine plan_nil ?_; simp only [tailL, List.filterMap_cons, List.filterMap_nil, nL]; change wpList _ _ _ (_ :: []) _ _
    go_wp2_with fail
    clear fM
    clear hE0
    go_end0
    rw [HQ.out, HW.out]
    refine ⟨rfl, ?_⟩
    refine nxt HM fun w7 M => ?_
    clear HM; have HM := M; clear M
    rw [J.setTold tb mb HL.out.1 p HX.out.1] at HM
    rw [show ({ J with told := J.told.set p (index + 1) } : JA).cells tb mb = ({ J with T := J.T.put e, told := J.told.set p (index + 1) } : JA).cells tb mb from rfl] at HM
    exact HM.out.shutJ (J := { J with T := J.T.put e, told := J.told.set p (index + 1) }) (tb := tb) (mb := mb) (by simpa using HL.out.1) HL.out.2 (by with_reducible repeat first | exact ph | apply pt) (by with_reducible repeat first | exact ph | apply pt) (by with_reducible repeat first | exact ph | apply pt)
end Go.Proofs.YthhdgjofagdjeaaDoor
end
section
/- What a judge does with a thing seen: a member began. Condition: the judge lies as 'JudgeX' says; the member is one of sixteen. -/
set_option linter.unusedVariables false
set_option linter.unusedSimpArgs false
set_option maxHeartbeats 2000000
set_option maxRecDepth 10000
namespace Go.Proofs.YthhdgjofagdjeaaDoor
open Go.RowKit

def beganR (J : JA) (p : Nat) (index : Int) : JA × Int :=
  if ¬ (J.next.getD p 0 < 0 ∨ J.next.getD p 0 = index) then (J, 403)
  else if ¬ (index ≤ (J.T.l.length : Int) ∧ (¬ J.next.getD p 0 < 0 ∨ index < (J.T.l.length : Int))) then (J, 405)
  else if ¬ (¬ J.next.getD p 0 < 0 ∨ hasB J.T.l index ⟨2, p, 0, []⟩ = true) then (J, 406)
  else ({ J with next := J.next.set p index }, 0)
theorem began_any {F : Nat → Prop} (w : World) (b : Nat) (J : JA) (kind : Int) (p : Nat) (index : Int) (e : En) (h : JudgeX w F b J) (hp : p < 16) (hl : J.T.l.length ≤ 4096) :
    Calls Tryd.prog 51 #[.pointer (some ⟨b, 0, none⟩), (⟨kind, p, index, e⟩ : Sn).v] w fun r w' => r = doneE (beganR J p index).2 ∧ Upd F w w' (judgeR b (beganR J p index).1) := by
  have HLL := Lib.hid hl
  clear hl
  obtain ⟨⟨tb, mb⟩, ⟨l9, l16⟩, M⟩ := (Mem.start (r := judgeR b J) h).openJ
  have HM := Lib.hid M
  clear M h
  obtain ⟨-, h1, c25, c26, c27, c28, c29⟩ := J.at tb mb l9 l16
  obtain ⟨n, hn⟩ : ∃ n, J.next.getD p 0 = n := ⟨_, rfl⟩
  have cp : (J.cells tb mb)[9 + p]? = some (.int .i64 n) := by
    rw [h1 p hp, ← hn, List.getD_eq_getElem?_getD, List.getElem?_eq_getElem (by omega)]; rfl
  have g1 : (p : Int) < 16 := by omega
  have g2 : ¬ (p : Int) < 0 := by omega
  have HP := Lib.hid hp
  have HL := Lib.hid (show _ ∧ _ from ⟨l9, l16⟩)
  have HN := Lib.hid hn
  clear h1 hp l9 l16 hn c25 c26 c27
  unfold Sn.v
  go_enter Tryd.func51, Tryd.ntmps51
  by_cases g0 : n < 0
  · skip
    have fM := HM.out.fa
    go_wp2_with fail
    all_goals clear fM
    refine nxt HM fun w0 M => ?_
    clear HM; have HM := M; clear M
    have fM := HM.out.fa
    have hE0 : Keeps NoB w0 w0.drew := (Keeps.refl _ _).drew
    refine wp_region_plan [(0, 0), (0, 1), (3, 2), (0, 3), (0, 4), (0, 5), (0, 6), (3, 7), (0, 8)] [] [] [] (ClsE w0) (by kernel_rfl) (by kernel_rfl) (by kernel_rfl) rfl rfl (ClsE.of hE0) (fun _ _ _ d _ h => by cases d <;> exact h) ?_; simp only [planL, nL]
    refine pM _ rfl rfl ?_; simp only [nP, nE]
    refine pR (v := ?_) rfl (fun W => ?_) ?_; rotate_left; (go_simp <;> with_reducible rfl); simp only [nP]
    refine pX (v := ?_) rfl ?_ ?_; rotate_left; (go_simp <;> with_reducible rfl); simp only [nP]
    iterate 4 (refine pR (v := ?_) rfl (fun W => ?_) ?_; rotate_left; (go_simp <;> with_reducible rfl); simp only [nP])
    refine pX (v := ?_) rfl ?_ ?_; rotate_left; (go_simp <;> with_reducible rfl); simp only [nP]
    refine pA _ rfl rfl ?_; simp only [nP, nE]
    refine plan_nil ?_; simp only [tailL, List.filterMap_nil]
    go_wp2_with fail
    clear fM
    clear hE0
    refine nxt HM fun w1 M => ?_
    clear HM; have HM := M; clear M
    obtain ⟨Ahb, hb⟩ := HM.out.get (r := cellsR w0.heap.size 4 [.bool true]) (by with_reducible repeat first | exact ph | apply pt)
    refine (must_1 w1 _ _ true hb.2).mono ?_
    rintro r wq ⟨rfl, hwq⟩
    rw [hwq]
    clear hwq wq
    replace HM := Lib.hid (HM.out.pick (r := cellsR w0.heap.size 4 [.bool true]) (by with_reducible repeat first | exact ph | apply pt)).drop
    clear hb
    simp only [mustE, if_true]
    go_wp2_with fail
    refine nxt HM fun w2 M => ?_
    clear HM; have HM := M; clear M
    obtain ⟨Aht, ht⟩ := HM.out.get (r := talkR tb J.T) (by with_reducible repeat first | exact ph | apply pt)
    have HT := Lib.hid ht
    clear ht
    have g0b : ¬ 0 ≤ n := by omega
    have fM := HM.out.fa
    have hE0 : Keeps NoB w2 w2.drew := (Keeps.refl _ _).drew
    refine wp_region_plan [(0, 0), (1, 1), (0, 2), (0, 3), (0, 4), (3, 5), (0, 8), (0, 9), (2, 6), (0, 7), (0, 10), (0, 11), (1, 12), (0, 13), (0, 14), (0, 15), (1, 16), (2, 17), (0, 18), (0, 19)] [1, 12, 16] [6, 17, 20, 21] [20, 21] (ClsE w2) (by kernel_rfl) (by kernel_rfl) (by kernel_rfl) rfl rfl (ClsE.of hE0) (fun _ _ _ d _ h => by cases d <;> exact h) ?_; simp only [planL, nL]
    refine pR (v := ?_) rfl (fun W => ?_) ?_; rotate_left; (go_simp <;> with_reducible rfl); simp only [nP]
    refine pL (v := ?_) rfl (fun W => ?_) ?_; rotate_left; (go_simp <;> with_reducible rfl); simp only [nP]
    refine pM _ rfl rfl ?_; simp only [nP, nE]
    iterate 2 (refine pR (v := ?_) rfl (fun W => ?_) ?_; rotate_left; (go_simp <;> with_reducible rfl); simp only [nP])
    refine pX (v := ?_) rfl ?_ ?_; rotate_left; (go_simp <;> with_reducible rfl); simp only [nP]
    refine pM _ rfl rfl ?_; simp only [nP, nE]
    refine pR (v := ?_) rfl (fun W => ?_) ?_; rotate_left; (go_simp <;> with_reducible rfl); simp only [nP]
    refine plan_does rfl (fun K hK => ?_)
    go_wp2_with fail
    refine (talk_len _ tb J.T (HT.out.ext hE0)).mono ?_
    rintro r w3 ⟨rfl, rfl⟩
    refine hK _ _ ⟨ClsE.of (by assumption), ?_⟩; clear hK K; try simp only [nP]
    refine pR (v := ?_) rfl (fun W => ?_) ?_; rotate_left; (go_simp <;> with_reducible rfl); simp only [nP]
    refine pM _ rfl rfl ?_; simp only [nP, nE]
    (first | (refine plan_skip rfl ?_; simp only [nP]) | (refine pR (v := ?_) rfl (fun W => ?_) ?_; rotate_left; (go_simp <;> with_reducible rfl); simp only [nP]))
    (first | (refine plan_skip rfl ?_; simp only [nP]) | (refine pL (v := ?_) rfl (fun W => ?_) ?_; rotate_left; (go_simp <;> with_reducible rfl); simp only [nP]))
    (first | (refine plan_skip rfl ?_; simp only [nP]) | (refine pM _ rfl rfl ?_; simp only [nP, nE]))
    iterate 2 ((first | (refine plan_skip rfl ?_; simp only [nP]) | (refine pR (v := ?_) rfl (fun W => ?_) ?_; rotate_left; (go_simp <;> with_reducible rfl); simp only [nP])))
    (first | (refine plan_skip rfl ?_; simp only [nP]) | (refine pL (v := ?_) rfl (fun W => ?_) ?_; rotate_left; (go_simp <;> with_reducible rfl); simp only [nP]))
    (first | (refine plan_skip rfl ?_; simp only [nP]) | (refine plan_does rfl (fun K hK => ?_)))
    go_wp2_with fail
    refine (talk_len _ tb J.T (HT.out.ext hE0)).mono ?_
    rintro r w3 ⟨rfl, rfl⟩
    refine hK _ _ ⟨ClsE.of (by assumption), ?_⟩; clear hK K; try simp only [nP]
    (first | (refine plan_skip rfl ?_; simp only [nP]) | (refine pR (v := ?_) rfl (fun W => ?_) ?_; rotate_left; (go_simp <;> with_reducible rfl); simp only [nP]))
    refine pR (v := ?_) rfl (fun W => ?_) ?_; rotate_left; (go_simp <;> with_reducible rfl); simp only [nP]
    refine plan_nil ?_; simp only [tailL, List.filterMap_cons, List.filterMap_nil, nL]; change wpList _ _ _ (_ :: _ :: []) _ _
    go_wp2_with fail
    clear fM
    clear hE0 g0b HT
    refine nxt HM fun w3 M => ?_
    clear HM; have HM := M; clear M
    obtain ⟨Ahb, hb⟩ := HM.out.get (r := cellsR w2.heap.size 4 [.bool (decide (index ≤ (J.T.l.length : Int))), .bool (decide (index < (J.T.l.length : Int)))]) (by with_reducible repeat first | exact ph | apply pt)
    refine (must_2 w3 _ _ _ _ hb.2).mono ?_
    rintro r wq ⟨rfl, hwq⟩
    rw [hwq]
    clear hwq wq
    replace HM := Lib.hid (HM.out.pick (r := cellsR w2.heap.size 4 [.bool (decide (index ≤ (J.T.l.length : Int))), .bool (decide (index < (J.T.l.length : Int)))]) (by with_reducible repeat first | exact ph | apply pt)).drop
    clear hb
    by_cases h2 : index < (J.T.l.length : Int)
    case neg =>
      rw [decide_eq_false h2, Bool.and_false]
      have hq : beganR J p index = (J, 405) := by unfold beganR; rw [HN.out, if_neg (fun h => h (.inl g0)), if_pos (fun h => by rcases h.2 with h | h; exact h g0; exact h2 h)]
      have HQ := Lib.hid hq
      clear hq
      simp only [mustE, Bool.false_eq_true, if_false, errE]
      go_wp2_with fail
      rw [HQ.out]
      exact ⟨rfl, rfl, HM.out.shutJ (J := J) (tb := tb) (mb := mb) HL.out.1 HL.out.2 (by with_reducible repeat first | exact ph | apply pt) (by with_reducible repeat first | exact ph | apply pt) (by with_reducible repeat first | exact ph | apply pt)⟩
    rw [decide_eq_true h2, decide_eq_true (show index ≤ (J.T.l.length : Int) by omega), Bool.and_true]
    simp only [mustE, if_true]
    have H2 := Lib.hid h2
    clear h2
    have g0b : ¬ 0 ≤ n := by omega
    have fM := HM.out.fa
    go_wp2_with fail
    all_goals clear fM
    refine nxt HM fun w4 M => ?_
    clear HM; have HM := M; clear M
    obtain ⟨A, hA, -⟩ := HM.out.shutJ (b := b) (J := J) (tb := tb) (mb := mb) HL.out.1 HL.out.2 (by with_reducible repeat first | exact ph | apply pt) (by with_reducible repeat first | exact ph | apply pt) (by with_reducible repeat first | exact ph | apply pt)
    refine (has_any w4 b J index ⟨2, p, 0, []⟩ hA HLL.out).mono ?_
    rintro r w5 ⟨rfl, hE5⟩
    replace HM := Lib.hid (HM.out.ext hE5)
    clear hE5 hA A
    have fM := HM.out.fa
    go_wp2_with fail
    all_goals clear fM
    refine nxt HM fun w6 M => ?_
    clear HM; have HM := M; clear M
    obtain ⟨Ahb, hb⟩ := HM.out.get (r := cellsR w5.heap.size 4 [.bool (hasB J.T.l index ⟨2, p, 0, []⟩)]) (by with_reducible repeat first | exact ph | apply pt)
    refine (must_1 w6 _ _ _ hb.2).mono ?_
    rintro r wq ⟨rfl, hwq⟩
    rw [hwq]
    clear hwq wq
    replace HM := Lib.hid (HM.out.pick (r := cellsR w5.heap.size 4 [.bool (hasB J.T.l index ⟨2, p, 0, []⟩)]) (by with_reducible repeat first | exact ph | apply pt)).drop
    clear hb
    cases hx : hasB J.T.l index ⟨2, p, 0, []⟩
    · have hq : beganR J p index = (J, 406) := by unfold beganR; rw [HN.out, if_neg (fun h => h (.inl g0)), if_neg (fun h => h ⟨by have := H2.out; omega, .inr H2.out⟩), if_pos (fun h => by rcases h with h | h; exact h g0; rw [hx] at h; cases h)]
      have HQ := Lib.hid hq
      clear hq
      simp only [mustE, Bool.false_eq_true, if_false, errE]
      go_wp2_with fail
      rw [HQ.out]
      exact ⟨rfl, rfl, HM.out.shutJ (J := J) (tb := tb) (mb := mb) HL.out.1 HL.out.2 (by with_reducible repeat first | exact ph | apply pt) (by with_reducible repeat first | exact ph | apply pt) (by with_reducible repeat first | exact ph | apply pt)⟩
    simp only [mustE, if_true]
    have hq : beganR J p index = ({ J with next := J.next.set p index }, 0) := by unfold beganR; rw [HN.out, if_neg (fun h => h (.inl g0)), if_neg (fun h => h ⟨by have := H2.out; omega, .inr H2.out⟩), if_neg (fun h => h (.inr hx))]
    have HQ := Lib.hid hq
    clear hx hq
    go_wp2_with fail
    refine nxt HM fun w7 M => ?_
    clear HM; have HM := M; clear M
    have fM := HM.out.fa
    have hE0 : Keeps (OneB b) w7 w7.drew := (Keeps.refl _ _).drew
    refine wp_region_plan [(0, 0), (0, 1), (3, 2), (0, 3), (3, 4), (0, 5), (0, 6), (0, 7), (0, 8)] [] [9] [9] (ClsK (OneB b) w7) (by kernel_rfl) (by kernel_rfl) (by kernel_rfl) rfl rfl (ClsK.of hE0) (fun _ _ _ d _ h => by cases d <;> exact h) ?_; simp only [planL, nL]
    refine pM _ rfl rfl ?_; simp only [nP, nE]
    refine pR (v := ?_) rfl (fun W => ?_) ?_; rotate_left; (go_simp <;> with_reducible rfl); simp only [nP]
    refine pX (v := ?_) rfl ?_ ?_; rotate_left; (go_simp <;> with_reducible rfl); simp only [nP]
    refine pR (v := ?_) rfl (fun W => ?_) ?_; rotate_left; (go_simp <;> with_reducible rfl); simp only [nP]
    refine pX (v := ?_) rfl ?_ ?_; rotate_left; (go_simp <;> with_reducible rfl); simp only [nP]
    iterate 4 (refine pR (v := ?_) rfl (fun W => ?_) ?_; rotate_left; (go_simp <;> with_reducible rfl); simp only [nP])
    refine plan_nil ?_; simp only [tailL, List.filterMap_cons, List.filterMap_nil, nL]; change wpList _ _ _ (_ :: []) _ _
    go_wp2_with fail
    clear fM
    clear hE0
    go_end0
    rw [HQ.out]
    refine ⟨rfl, ?_⟩
    refine nxt HM fun w8 M => ?_
    clear HM; have HM := M; clear M
    rw [J.setNext tb mb HL.out.1 HL.out.2 p HP.out] at HM
    exact HM.out.shutJ (J := { J with next := J.next.set p index }) (tb := tb) (mb := mb) HL.out.1 (by simpa using HL.out.2) (by with_reducible repeat first | exact ph | apply pt) (by with_reducible repeat first | exact ph | apply pt) (by with_reducible repeat first | exact ph | apply pt)
  · skip
    have G0 := Lib.hid g0
    have g0b : 0 ≤ n := by omega
    clear g0
    have fM := HM.out.fa
    go_wp2_with fail
    all_goals clear fM
    refine nxt HM fun w0 M => ?_
    clear HM; have HM := M; clear M
    have fM := HM.out.fa
    have hE0 : Keeps NoB w0 w0.drew := (Keeps.refl _ _).drew
    refine wp_region_plan [(0, 0), (0, 1), (3, 2), (0, 3), (0, 4), (0, 5), (0, 6), (3, 7), (0, 8)] [] [] [] (ClsE w0) (by kernel_rfl) (by kernel_rfl) (by kernel_rfl) rfl rfl (ClsE.of hE0) (fun _ _ _ d _ h => by cases d <;> exact h) ?_; simp only [planL, nL]
    refine pM _ rfl rfl ?_; simp only [nP, nE]
    refine pR (v := ?_) rfl (fun W => ?_) ?_; rotate_left; (go_simp <;> with_reducible rfl); simp only [nP]
    refine pX (v := ?_) rfl ?_ ?_; rotate_left; (go_simp <;> with_reducible rfl); simp only [nP]
    iterate 4 (refine pR (v := ?_) rfl (fun W => ?_) ?_; rotate_left; (go_simp <;> with_reducible rfl); simp only [nP])
    refine pX (v := ?_) rfl ?_ ?_; rotate_left; (go_simp <;> with_reducible rfl); simp only [nP]
    refine pA _ rfl rfl ?_; simp only [nP, nE]
    refine plan_nil ?_; simp only [tailL, List.filterMap_nil]
    go_wp2_with fail
    clear fM
    clear hE0
    refine nxt HM fun w1 M => ?_
    clear HM; have HM := M; clear M
    rw [show decide (n < 0) = false from decide_eq_false (by omega), Bool.false_or] at HM
    obtain ⟨Ahb, hb⟩ := HM.out.get (r := cellsR w0.heap.size 4 [.bool (n == index)]) (by with_reducible repeat first | exact ph | apply pt)
    refine (must_1 w1 _ _ _ hb.2).mono ?_
    rintro r wq ⟨rfl, hwq⟩
    rw [hwq]
    clear hwq wq
    replace HM := Lib.hid (HM.out.pick (r := cellsR w0.heap.size 4 [.bool (n == index)]) (by with_reducible repeat first | exact ph | apply pt)).drop
    clear hb
    cases hx : n == index
    · have hx' : ¬ n = index := by simpa using hx
      have hq : beganR J p index = (J, 403) := by unfold beganR; rw [HN.out, if_pos (fun h => by rcases h with h | h; omega; exact hx' h)]
      have HQ := Lib.hid hq
      clear hq
      simp only [mustE, Bool.false_eq_true, if_false, errE]
      go_wp2_with fail
      rw [HQ.out]
      exact ⟨rfl, rfl, HM.out.shutJ (J := J) (tb := tb) (mb := mb) HL.out.1 HL.out.2 (by with_reducible repeat first | exact ph | apply pt) (by with_reducible repeat first | exact ph | apply pt) (by with_reducible repeat first | exact ph | apply pt)⟩
    obtain rfl : n = index := by simpa using hx
    clear hx
    simp only [mustE, if_true]
    go_wp2_with fail
    refine nxt HM fun w2 M => ?_
    clear HM; have HM := M; clear M
    obtain ⟨Aht, ht⟩ := HM.out.get (r := talkR tb J.T) (by with_reducible repeat first | exact ph | apply pt)
    have HT := Lib.hid ht
    clear ht
    have fM := HM.out.fa
    have hE0 : Keeps NoB w2 w2.drew := (Keeps.refl _ _).drew
    refine wp_region_plan [(0, 0), (1, 1), (0, 2), (0, 3), (0, 4), (3, 5), (0, 8), (0, 9), (2, 6), (0, 7), (0, 10), (0, 11), (1, 12), (0, 13), (0, 14), (0, 15), (1, 16), (2, 17), (0, 18), (0, 19)] [1, 12, 16] [6, 17, 20, 21] [20, 21] (ClsE w2) (by kernel_rfl) (by kernel_rfl) (by kernel_rfl) rfl rfl (ClsE.of hE0) (fun _ _ _ d _ h => by cases d <;> exact h) ?_; simp only [planL, nL]
    refine pR (v := ?_) rfl (fun W => ?_) ?_; rotate_left; (go_simp <;> with_reducible rfl); simp only [nP]
    refine pL (v := ?_) rfl (fun W => ?_) ?_; rotate_left; (go_simp <;> with_reducible rfl); simp only [nP]
    refine pM _ rfl rfl ?_; simp only [nP, nE]
    iterate 2 (refine pR (v := ?_) rfl (fun W => ?_) ?_; rotate_left; (go_simp <;> with_reducible rfl); simp only [nP])
    refine pX (v := ?_) rfl ?_ ?_; rotate_left; (go_simp <;> with_reducible rfl); simp only [nP]
    refine pM _ rfl rfl ?_; simp only [nP, nE]
    refine pR (v := ?_) rfl (fun W => ?_) ?_; rotate_left; (go_simp <;> with_reducible rfl); simp only [nP]
    refine plan_does rfl (fun K hK => ?_)
    go_wp2_with fail
    refine (talk_len _ tb J.T (HT.out.ext hE0)).mono ?_
    rintro r w3 ⟨rfl, rfl⟩
    refine hK _ _ ⟨ClsE.of (by assumption), ?_⟩; clear hK K; try simp only [nP]
    refine pR (v := ?_) rfl (fun W => ?_) ?_; rotate_left; (go_simp <;> with_reducible rfl); simp only [nP]
    refine pM _ rfl rfl ?_; simp only [nP, nE]
    (first | (refine plan_skip rfl ?_; simp only [nP]) | (refine pR (v := ?_) rfl (fun W => ?_) ?_; rotate_left; (go_simp <;> with_reducible rfl); simp only [nP]))
    (first | (refine plan_skip rfl ?_; simp only [nP]) | (refine pL (v := ?_) rfl (fun W => ?_) ?_; rotate_left; (go_simp <;> with_reducible rfl); simp only [nP]))
    (first | (refine plan_skip rfl ?_; simp only [nP]) | (refine pM _ rfl rfl ?_; simp only [nP, nE]))
    iterate 2 ((first | (refine plan_skip rfl ?_; simp only [nP]) | (refine pR (v := ?_) rfl (fun W => ?_) ?_; rotate_left; (go_simp <;> with_reducible rfl); simp only [nP])))
    (first | (refine plan_skip rfl ?_; simp only [nP]) | (refine pL (v := ?_) rfl (fun W => ?_) ?_; rotate_left; (go_simp <;> with_reducible rfl); simp only [nP]))
    refine plan_skip rfl ?_; simp only [nP]
    (first | (refine plan_skip rfl ?_; simp only [nP]) | (refine pR (v := ?_) rfl (fun W => ?_) ?_; rotate_left; (go_simp <;> with_reducible rfl); simp only [nP]))
    refine pR (v := ?_) rfl (fun W => ?_) ?_; rotate_left; (go_simp <;> with_reducible rfl); simp only [nP]
    refine plan_nil ?_; simp only [tailL, List.filterMap_cons, List.filterMap_nil, nL]; change wpList _ _ _ (_ :: _ :: []) _ _
    go_wp2_with fail
    clear fM
    clear hE0 HT
    refine nxt HM fun w3 M => ?_
    clear HM; have HM := M; clear M
    obtain ⟨Ahb, hb⟩ := HM.out.get (r := cellsR w2.heap.size 4 [.bool (decide (n ≤ (J.T.l.length : Int))), .bool true]) (by with_reducible repeat first | exact ph | apply pt)
    refine (must_2 w3 _ _ _ _ hb.2).mono ?_
    rintro r wq ⟨rfl, hwq⟩
    rw [hwq]
    clear hwq wq
    replace HM := Lib.hid (HM.out.pick (r := cellsR w2.heap.size 4 [.bool (decide (n ≤ (J.T.l.length : Int))), .bool true]) (by with_reducible repeat first | exact ph | apply pt)).drop
    clear hb
    by_cases h2 : n ≤ (J.T.l.length : Int)
    case neg =>
      rw [decide_eq_false h2, Bool.false_and]
      have hq : beganR J p n = (J, 405) := by unfold beganR; rw [HN.out, if_neg (fun h => h (.inr rfl)), if_pos (fun h => h2 h.1)]
      have HQ := Lib.hid hq
      clear hq
      simp only [mustE, Bool.false_eq_true, if_false, errE]
      go_wp2_with fail
      rw [HQ.out]
      exact ⟨rfl, rfl, HM.out.shutJ (J := J) (tb := tb) (mb := mb) HL.out.1 HL.out.2 (by with_reducible repeat first | exact ph | apply pt) (by with_reducible repeat first | exact ph | apply pt) (by with_reducible repeat first | exact ph | apply pt)⟩
    rw [decide_eq_true h2, Bool.and_true]
    simp only [mustE, if_true]
    have hq : beganR J p n = ({ J with next := J.next.set p n }, 0) := by unfold beganR; rw [HN.out, if_neg (fun h => h (.inr rfl)), if_neg (fun h => h ⟨h2, .inl (by omega)⟩), if_neg (fun h => h (.inl (by omega)))]
    have HQ := Lib.hid hq
    clear h2 hq
    have fM := HM.out.fa
    go_wp2_with fail
    all_goals clear fM
    refine nxt HM fun w4 M => ?_
    clear HM; have HM := M; clear M
    obtain ⟨Ahb, hb⟩ := HM.out.get (r := cellsR w3.heap.size 4 [.bool true]) (by with_reducible repeat first | exact ph | apply pt)
    refine (must_1 w4 _ _ _ hb.2).mono ?_
    rintro r wq ⟨rfl, hwq⟩
    rw [hwq]
    clear hwq wq
    replace HM := Lib.hid (HM.out.pick (r := cellsR w3.heap.size 4 [.bool true]) (by with_reducible repeat first | exact ph | apply pt)).drop
    clear hb
    simp only [mustE, if_true]
    go_wp2_with fail
    refine nxt HM fun w7 M => ?_
    clear HM; have HM := M; clear M
    have fM := HM.out.fa
    have hE0 : Keeps (OneB b) w7 w7.drew := (Keeps.refl _ _).drew
    refine wp_region_plan [(0, 0), (0, 1), (3, 2), (0, 3), (3, 4), (0, 5), (0, 6), (0, 7), (0, 8)] [] [9] [9] (ClsK (OneB b) w7) (by kernel_rfl) (by kernel_rfl) (by kernel_rfl) rfl rfl (ClsK.of hE0) (fun _ _ _ d _ h => by cases d <;> exact h) ?_; simp only [planL, nL]
    refine pM _ rfl rfl ?_; simp only [nP, nE]
    refine pR (v := ?_) rfl (fun W => ?_) ?_; rotate_left; (go_simp <;> with_reducible rfl); simp only [nP]
    refine pX (v := ?_) rfl ?_ ?_; rotate_left; (go_simp <;> with_reducible rfl); simp only [nP]
    refine pR (v := ?_) rfl (fun W => ?_) ?_; rotate_left; (go_simp <;> with_reducible rfl); simp only [nP]
    refine pX (v := ?_) rfl ?_ ?_; rotate_left; (go_simp <;> with_reducible rfl); simp only [nP]
    iterate 4 (refine pR (v := ?_) rfl (fun W => ?_) ?_; rotate_left; (go_simp <;> with_reducible rfl); simp only [nP])
    refine plan_nil ?_; simp only [tailL, List.filterMap_cons, List.filterMap_nil, nL]; change wpList _ _ _ (_ :: []) _ _
    go_wp2_with fail
    clear fM
    clear hE0
    go_end0
    rw [HQ.out]
    refine ⟨rfl, ?_⟩
    refine nxt HM fun w8 M => ?_
    clear HM; have HM := M; clear M
    rw [J.setNext tb mb HL.out.1 HL.out.2 p HP.out] at HM
    exact HM.out.shutJ (J := { J with next := J.next.set p n }) (tb := tb) (mb := mb) HL.out.1 (by simpa using HL.out.2) (by with_reducible repeat first | exact ph | apply pt) (by with_reducible repeat first | exact ph | apply pt) (by with_reducible repeat first | exact ph | apply pt)
end Go.Proofs.YthhdgjofagdjeaaDoor
end
