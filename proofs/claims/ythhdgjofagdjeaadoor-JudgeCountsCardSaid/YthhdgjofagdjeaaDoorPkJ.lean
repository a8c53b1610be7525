/- Texts VA, VB, VC, VD, one behind the other. Conditions: as each says. -/
import Derived.Test.YthhdgjofagdjeaaDoorPkI
section
/- The document's question whether an entry may be: what 'enB' tells. Condition: its text has at most 500000 bytes. -/
set_option linter.unusedVariables false
set_option linter.unusedSimpArgs false
set_option maxHeartbeats 2000000
set_option maxRecDepth 10000
namespace Go.Proofs.YthhdgjofagdjeaaDoor
open Go.RowKit Go.Shelf

theorem entry14_any (w : World) (e : En) (hl : e.text.length ≤ 500000) :
    Calls Tryd.prog 40 #[e.v] w fun r w' => r = .returned (.bool (enB e)) ∧ Ext w w' := by
  obtain ⟨kind, member, number, text⟩ := e
  dsimp only at hl
  have HL := Lib.hid hl
  clear hl
  unfold En.v
  dsimp only
  by_cases m0 : 0 ≤ member
  · by_cases m1 : member < 16
    · have HX : Hid (true = memB member) := Lib.hid (by unfold memB; rw [decide_eq_true m0, decide_eq_true m1]; rfl)
      by_cases k1 : kind = 1
      · subst k1
        rcases none_cases ⟨1, member, number, text⟩ with ⟨h1, h2, h3, h4⟩ | ⟨h1, h2, h3, h4⟩ | ⟨h1, h2, h4⟩ | ⟨h1, h4⟩
        all_goals
          have HQ : Hid (enB ⟨1, member, number, text⟩ = _) := Lib.hid (show enB ⟨1, member, number, text⟩ = noneB ⟨1, member, number, text⟩ from rfl)
          have H4 := Lib.hid h4
          clear h4
          dsimp only at h1
          try dsimp only at h2
          try dsimp only at h3
          clear HX
          try subst h1
          try subst h2
          first
          | (exfalso; omega)
          | (go_enter Tryd.func40, Tryd.ntmps40
             go_wp2_with fail
             go_ret
             exact ⟨by rw [HQ.out, H4.out]; rfl, (Keeps.refl _ _).alloc _⟩)
      have e1 : (kind == 1) = false := by simpa using k1
      by_cases k23 : kind = 2 ∨ kind = 3
      · have HK : Hid (enB ⟨kind, member, number, text⟩ = (memB member && aloneB ⟨kind, member, number, text⟩)) := Lib.hid (by unfold enB; rw [if_neg k1, if_pos k23])
        rcases alone_cases ⟨kind, member, number, text⟩ with ⟨h1, h2, h3⟩ | ⟨h1, h2, h3⟩ | ⟨h1, h3⟩
        all_goals
          have H3 := Lib.hid h3
          clear h3
          dsimp only at h1
          try dsimp only at h2
          try subst h1
          rcases k23 with k2 | k3
          · subst k2
            go_enter Tryd.func40, Tryd.ntmps40
            go_wp2_with fail
            go_ret
            exact ⟨by rw [HK.out, H3.out, ← HX.out]; rfl, (Keeps.refl _ _).alloc _⟩
          · subst k3
            go_enter Tryd.func40, Tryd.ntmps40
            go_wp2_with fail
            go_ret
            exact ⟨by rw [HK.out, H3.out, ← HX.out]; rfl, (Keeps.refl _ _).alloc _⟩
      have k2 : ¬ kind = 2 := fun h => k23 (.inl h)
      have k3 : ¬ kind = 3 := fun h => k23 (.inr h)
      have e2 : (kind == 2) = false := by simpa using k2
      have e3 : (kind == 3) = false := by simpa using k3
      by_cases k4 : kind = 4
      case neg =>
        have e4 : (kind == 4) = false := by simpa using k4
        have HK : Hid (enB ⟨kind, member, number, text⟩ = false) := Lib.hid (by unfold enB; rw [if_neg k1, if_neg k23, if_neg k4])
        clear k1 k2 k3 k4 k23 HX
        go_enter Tryd.func40, Tryd.ntmps40
        go_wp2_with fail
        go_ret
        exact ⟨by rw [HK.out]; rfl, (Keeps.refl _ _).alloc _⟩
      have hse : enB ⟨kind, member, number, text⟩ = (decide (1 ≤ number) && decide (number ≤ 2147483647) && (chk text == 0)) := by
        unfold enB; rw [if_neg k1, if_neg k23, if_pos k4]; unfold sayB; rw [← HX.out]; simp
      have HK := Lib.hid hse
      clear hse k1 k2 k3 k23 HX
      subst k4
      by_cases n1 : 1 ≤ number
      case neg =>
        have N := Lib.hid n1
        go_enter Tryd.func40, Tryd.ntmps40
        go_wp2_with fail
        go_ret
        exact ⟨by rw [HK.out, decide_eq_false (p := 1 ≤ number) (by have := N.out; omega)]; rfl, (Keeps.refl _ _).alloc _⟩
      by_cases n2 : number ≤ 2147483647
      case neg =>
        have N := Lib.hid n2
        go_enter Tryd.func40, Tryd.ntmps40
        go_wp2_with fail
        go_ret
        exact ⟨by rw [HK.out, decide_eq_false (p := number ≤ 2147483647) (by have := N.out; omega)]; simp, (Keeps.refl _ _).alloc _⟩
      have HN := Lib.hid (And.intro n1 n2)
      have HM := Lib.hid (Mem.start0 w)
      go_enter Tryd.func40, Tryd.ntmps40
      have fM := HM.out.fa
      go_wp2_with fail
      all_goals clear fM
      refine nxt HM fun w0 M => ?_
      clear HM; have HM := M; clear M
      refine (check03_any w0 text HL.out).mono ?_
      rintro r w1 ⟨rfl, hE⟩
      replace HM := Lib.hid (HM.out.ext hE)
      clear hE
      have fM := HM.out.fa
      go_wp2_with fail
      all_goals clear fM
      go_ret
      refine ⟨?_, HM.out.extTo⟩
      rw [HK.out, decide_eq_true HN.out.1, decide_eq_true HN.out.2]
      have : ((chk text : Int) == 0) = (chk text == 0) := by
        rw [Bool.eq_iff_iff]; simp
      simp [this]
    · have HX : Hid (false = memB member) := Lib.hid (by unfold memB; rw [decide_eq_false m1]; simp)
      by_cases k1 : kind = 1
      · subst k1
        rcases none_cases ⟨1, member, number, text⟩ with ⟨h1, h2, h3, h4⟩ | ⟨h1, h2, h3, h4⟩ | ⟨h1, h2, h4⟩ | ⟨h1, h4⟩
        all_goals
          have HQ : Hid (enB ⟨1, member, number, text⟩ = _) := Lib.hid (show enB ⟨1, member, number, text⟩ = noneB ⟨1, member, number, text⟩ from rfl)
          have H4 := Lib.hid h4
          clear h4
          dsimp only at h1
          try dsimp only at h2
          try dsimp only at h3
          clear HX
          try subst h1
          try subst h2
          first
          | (exfalso; omega)
          | (go_enter Tryd.func40, Tryd.ntmps40
             go_wp2_with fail
             go_ret
             exact ⟨by rw [HQ.out, H4.out]; rfl, (Keeps.refl _ _).alloc _⟩)
      have e1 : (kind == 1) = false := by simpa using k1
      by_cases k23 : kind = 2 ∨ kind = 3
      · have HK : Hid (enB ⟨kind, member, number, text⟩ = (memB member && aloneB ⟨kind, member, number, text⟩)) := Lib.hid (by unfold enB; rw [if_neg k1, if_pos k23])
        rcases alone_cases ⟨kind, member, number, text⟩ with ⟨h1, h2, h3⟩ | ⟨h1, h2, h3⟩ | ⟨h1, h3⟩
        all_goals
          have H3 := Lib.hid h3
          clear h3
          dsimp only at h1
          try dsimp only at h2
          try subst h1
          rcases k23 with k2 | k3
          · subst k2
            go_enter Tryd.func40, Tryd.ntmps40
            go_wp2_with fail
            go_ret
            exact ⟨by rw [HK.out, H3.out, ← HX.out]; rfl, (Keeps.refl _ _).alloc _⟩
          · subst k3
            go_enter Tryd.func40, Tryd.ntmps40
            go_wp2_with fail
            go_ret
            exact ⟨by rw [HK.out, H3.out, ← HX.out]; rfl, (Keeps.refl _ _).alloc _⟩
      have k2 : ¬ kind = 2 := fun h => k23 (.inl h)
      have k3 : ¬ kind = 3 := fun h => k23 (.inr h)
      have e2 : (kind == 2) = false := by simpa using k2
      have e3 : (kind == 3) = false := by simpa using k3
      by_cases k4 : kind = 4
      case neg =>
        have e4 : (kind == 4) = false := by simpa using k4
        have HK : Hid (enB ⟨kind, member, number, text⟩ = false) := Lib.hid (by unfold enB; rw [if_neg k1, if_neg k23, if_neg k4])
        clear k1 k2 k3 k4 k23 HX
        go_enter Tryd.func40, Tryd.ntmps40
        go_wp2_with fail
        go_ret
        exact ⟨by rw [HK.out]; rfl, (Keeps.refl _ _).alloc _⟩
      have HK : Hid (enB ⟨kind, member, number, text⟩ = false) := Lib.hid (by unfold enB; rw [if_neg k1, if_neg k23, if_pos k4]; unfold sayB; rw [← HX.out]; simp)
      clear k1 k2 k3 k23 HX
      subst k4
      go_enter Tryd.func40, Tryd.ntmps40
      go_wp2_with fail
      go_ret
      exact ⟨by rw [HK.out]; rfl, (Keeps.refl _ _).alloc _⟩
  · have HX : Hid (false = memB member) := Lib.hid (by unfold memB; rw [decide_eq_false m0]; simp)
    by_cases k1 : kind = 1
    · subst k1
      rcases none_cases ⟨1, member, number, text⟩ with ⟨h1, h2, h3, h4⟩ | ⟨h1, h2, h3, h4⟩ | ⟨h1, h2, h4⟩ | ⟨h1, h4⟩
      all_goals
        have HQ : Hid (enB ⟨1, member, number, text⟩ = _) := Lib.hid (show enB ⟨1, member, number, text⟩ = noneB ⟨1, member, number, text⟩ from rfl)
        have H4 := Lib.hid h4
        clear h4
        dsimp only at h1
        try dsimp only at h2
        try dsimp only at h3
        clear HX
        try subst h1
        try subst h2
        first
        | (exfalso; omega)
        | (go_enter Tryd.func40, Tryd.ntmps40
           go_wp2_with fail
           go_ret
           exact ⟨by rw [HQ.out, H4.out]; rfl, (Keeps.refl _ _).alloc _⟩)
    have e1 : (kind == 1) = false := by simpa using k1
    by_cases k23 : kind = 2 ∨ kind = 3
    · have HK : Hid (enB ⟨kind, member, number, text⟩ = (memB member && aloneB ⟨kind, member, number, text⟩)) := Lib.hid (by unfold enB; rw [if_neg k1, if_pos k23])
      rcases alone_cases ⟨kind, member, number, text⟩ with ⟨h1, h2, h3⟩ | ⟨h1, h2, h3⟩ | ⟨h1, h3⟩
      all_goals
        have H3 := Lib.hid h3
        clear h3
        dsimp only at h1
        try dsimp only at h2
        try subst h1
        rcases k23 with k2 | k3
        · subst k2
          go_enter Tryd.func40, Tryd.ntmps40
          go_wp2_with fail
          go_ret
          exact ⟨by rw [HK.out, H3.out, ← HX.out]; rfl, (Keeps.refl _ _).alloc _⟩
        · subst k3
          go_enter Tryd.func40, Tryd.ntmps40
          go_wp2_with fail
          go_ret
          exact ⟨by rw [HK.out, H3.out, ← HX.out]; rfl, (Keeps.refl _ _).alloc _⟩
    have k2 : ¬ kind = 2 := fun h => k23 (.inl h)
    have k3 : ¬ kind = 3 := fun h => k23 (.inr h)
    have e2 : (kind == 2) = false := by simpa using k2
    have e3 : (kind == 3) = false := by simpa using k3
    by_cases k4 : kind = 4
    case neg =>
      have e4 : (kind == 4) = false := by simpa using k4
      have HK : Hid (enB ⟨kind, member, number, text⟩ = false) := Lib.hid (by unfold enB; rw [if_neg k1, if_neg k23, if_neg k4])
      clear k1 k2 k3 k4 k23 HX
      go_enter Tryd.func40, Tryd.ntmps40
      go_wp2_with fail
      go_ret
      exact ⟨by rw [HK.out]; rfl, (Keeps.refl _ _).alloc _⟩
    have HK : Hid (enB ⟨kind, member, number, text⟩ = false) := Lib.hid (by unfold enB; rw [if_neg k1, if_neg k23, if_pos k4]; unfold sayB; rw [← HX.out]; simp)
    clear k1 k2 k3 k23 HX
    subst k4
    go_enter Tryd.func40, Tryd.ntmps40
    go_wp2_with fail
    go_ret
    exact ⟨by rw [HK.out]; rfl, (Keeps.refl _ _).alloc _⟩
end Go.Proofs.YthhdgjofagdjeaaDoor
end
section
/- The document's talk: how a member stands, whether an entry would count, an entry applied. Condition: its lines lie as 'Win' says. -/
set_option linter.unusedVariables false
set_option linter.unusedSimpArgs false
set_option maxHeartbeats 2000000
set_option maxRecDepth 10000
namespace Go.Proofs.YthhdgjofagdjeaaDoor
open Go.RowKit Go.Shelf

/-- what a line does to a standing -/
def ofStep (m : Int) (s : St) (k : Nat) (x : Ln) : St :=
  if x.e.member = m then (if x.e.kind = 2 then ⟨true, (k : Int), s.last⟩ else if x.e.kind = 3 then ⟨false, s.joined, s.last⟩ else if x.e.kind = 4 then ⟨s.inn, s.joined, x.e.number⟩ else s) else s
/-- how a member stands behind the first k lines -/
def ofK (l : List Ln) (m : Int) : Nat → St
  | 0 => ⟨false, 0, 0⟩
  | k + 1 => match l[k]? with
    | some x => ofStep m (ofK l m k) k x
    | none => ofK l m k
theorem ofK_succ (l : List Ln) (m : Int) (k : Nat) (h : k < l.length) : ofK l m (k + 1) = ofStep m (ofK l m k) k l[k] := by
  rw [ofK, List.getElem?_eq_getElem h]
theorem ofK_append (l r : List Ln) (m : Int) : ∀ k, k ≤ l.length → ofK (l ++ r) m k = ofK l m k
  | 0, _ => rfl
  | k + 1, h => by
    rw [ofK_succ _ _ _ (by rw [List.length_append]; omega), ofK_succ _ _ _ (by omega), ofK_append l r m k (by omega), List.getElem_append_left (by omega)]
def TA.Ok (T : TA) : Prop := T.st.length = 16 ∧ ∀ m : Nat, m < 16 → T.of m = ofK T.l m T.l.length
theorem T0_ok : T0.Ok := ⟨rfl, fun m hm => by
  show (List.replicate 16 (⟨false, 0, 0⟩ : St)).getD m ⟨false, 0, 0⟩ = ⟨false, 0, 0⟩
  rw [List.getD_eq_getElem?_getD, List.getElem?_replicate]
  split <;> rfl⟩
theorem TA.Ok.put {T : TA} (h : T.Ok) (e : En) (he : enB e = true) (hc : (countsR T e).2 = true) : (T.put e).Ok := by
  obtain ⟨hl, ho⟩ := h
  obtain ⟨p, hp, h16⟩ := enB_mem he
  refine ⟨by show (T.st.set _ _).length = 16; rw [List.length_set, hl], fun m hm => ?_⟩
  have h1 : (T.put e).l = T.l ++ [⟨(T.l.length : Int), T.slot, e⟩] := rfl
  rw [h1, List.length_append, List.length_singleton, ofK_succ _ _ _ (by rw [List.length_append]; simp), ofK_append _ _ _ _ (Nat.le_refl _), List.getElem_append_right (Nat.le_refl _)]
  simp only [Nat.sub_self, List.getElem_cons_zero]
  rw [← ho m hm]
  unfold ofStep
  dsimp only
  rw [hp]
  show (T.st.set e.member.toNat (countsR T e).1).getD m ⟨false, 0, 0⟩ = _
  rw [hp, Int.toNat_natCast, List.getD_eq_getElem?_getD, List.getElem?_set]
  by_cases hpm : p = m
  · subst hpm
    rw [if_pos rfl, if_pos rfl, if_pos (by omega)]
    have hk : e.kind = 2 ∨ e.kind = 3 ∨ e.kind = 4 := by
      unfold countsR at hc
      by_cases k2 : e.kind = 2
      · exact .inl k2
      rw [if_neg k2] at hc
      by_cases k3 : e.kind = 3
      · exact .inr (.inl k3)
      rw [if_neg k3] at hc
      by_cases k4 : e.kind = 4
      · exact .inr (.inr k4)
      rw [if_neg k4] at hc
      cases hc
    unfold countsR
    rw [hp, Int.toNat_natCast]
    rcases hk with k | k | k
    · rw [if_pos k, if_pos k]; rfl
    · rw [if_neg (by omega), if_pos k, if_neg (by omega), if_pos k]; rfl
    · rw [if_neg (by omega), if_neg (by omega), if_pos k, if_neg (by omega), if_neg (by omega), if_pos k]; rfl
  · rw [if_neg hpm, if_neg (by omega)]
    unfold TA.of
    rw [List.getD_eq_getElem?_getD]
theorem ln_e {w : World} {a : Option Addr} {c : Nat} {l : List Ln} (h : Win w 0 6 (.slice a l.length c) l.length (lnsC l)) (k : Nat) (hk : k < l.length) :
    ∃ g o, a = some ⟨g, o, none⟩ ∧ g < w.heap.size ∧ w.cell? ⟨g, o + k * 6 + 2, none⟩ = some (.int .i64 l[k].e.kind) ∧ w.cell? ⟨g, o + k * 6 + 2 + 1, none⟩ = some (.int .i64 l[k].e.member) ∧ w.cell? ⟨g, o + k * 6 + 2 + 2, none⟩ = some (.int .i64 l[k].e.number) ∧ w.cell? ⟨g, o + k * 6 + 2 + 3, none⟩ = some (.string (bs l[k].e.text)) := by
  obtain ⟨g, o, cap, hv, h1, hg, h3⟩ := ln_at h k hk
  cases hv
  exact ⟨g, o, rfl, hg, h3 2 (by decide), h3 3 (by decide), h3 4 (by decide), h3 5 (by decide)⟩
set_option maxRecDepth 100000 in
theorem of_any (w : World) (v : Value) (slot m : Int) (l : List Ln) (hv : Win w 0 6 v l.length (lnsC l)) (hl : l.length ≤ 4096) :
    Calls Tryd.prog 60 #[.agg #[.int .i64 slot, v], .int .i64 m] w fun r w' => r = .returned (ofK l m l.length).v ∧ Ext w w' := by
  obtain ⟨a, c, rfl⟩ := hv.len
  have HV := Lib.hid hv
  have HL := Lib.hid hl
  have HM := Lib.hid (Mem.start0 w)
  clear hv hl
  go_enter Tryd.func60, Tryd.ntmps60
  have fM := HM.out.fa
  go_wp2_with fail
  all_goals clear fM
  refine nxt HM fun w0 M => ?_
  clear HM; have HM := M; clear M
  go_loopw [6] (fun i wr => ∃ k : Nat, k ≤ l.length ∧ i = .int .i64 k ∧ Hid (Mem NoB w wr [cellsR (w.heap.size + 1 + 1) 90 (ofK l m k).cells, cellsR w.heap.size 44 [.int .i64 slot, .slice a l.length c], cellsR (w.heap.size + 1) 90 [.bool false, .int .i64 0, .int .i64 0]])) (fun i _ => l.length - (intOf i).toNat)
  case atStart =>
    refine ⟨0, Nat.zero_le _, rfl, Lib.hid ?_⟩
    rw [show (ofK l m 0).cells = [.bool false, .int .i64 0, .int .i64 0] from rfl]
    exact Mem.sub HM.out (by repeat first | exact Sub.nil | refine Sub.cons (by with_reducible repeat first | exact ph | apply pt) ?_)
  case round =>
    obtain ⟨k, hk, rfl, HM⟩ := hrel
    by_cases hlt : k < l.length
    · have hst := ofK_succ l m k hlt
      obtain ⟨g, o, rfl, hg, d0, d1, d2, d3⟩ := ln_e (HV.out.ext HM.out.extTo) k hlt
      obtain ⟨e, he⟩ : ∃ e, l[k].e = e := ⟨_, rfl⟩
      obtain ⟨⟨s0, s1, s2⟩, hs⟩ : ∃ s, ofK l m k = s := ⟨_, rfl⟩
      have HST : Hid (ofK l m (k + 1) = ofStep m ⟨s0, s1, s2⟩ k ⟨0, 0, e⟩) := Lib.hid (by rw [hst, hs, ← he]; rfl)
      rw [hs] at HM
      unfold St.cells at HM
      rw [he] at d0 d1 d2 d3
      clear hst he hs
      have g1 : (k : Int) < (l.length : Int) := by omega
      have g2 : ¬ (k : Int) < 0 := by omega
      obtain ⟨kind, member, number, text⟩ := e
      dsimp only at d0 d1 d2 d3
      have HH := Lib.hid hlt
      have g3 : (k : Int) < 4096 := by have := HL.out; omega
      by_cases h1 : member = m
      case neg =>
        have H1 := Lib.hid h1
        have fM := HM.out.fa
        go_wp2_with fail
        all_goals clear fM
        go_roundw
        case rel =>
          refine ⟨k + 1, by omega, by go_num, Lib.hid ?_⟩
          rw [HST.out]
          unfold ofStep
          dsimp only
          rw [if_neg H1.out]
          dsimp only [St.cells]
          apply Mem.mem
          · skip
            exact HM.out.to
          intro w8 M
          try simp only [List.set_cons_zero, List.set_cons_succ] at M
          exact Mem.sub M (by repeat first | exact Sub.nil | refine Sub.cons (by with_reducible repeat first | exact ph | apply pt) ?_)
        case measure => simp [intOf]; omega
      have H1 := Lib.hid h1
      have h1' : (member != m) = false := by simpa using h1
      have h1'' : (member == m) = true := by simpa using h1
      clear h1
      by_cases k2 : kind = 2
      · subst k2
        have fM := HM.out.fa
        go_wp2_with fail
        all_goals clear fM
        go_roundw
        case rel =>
          refine ⟨k + 1, by omega, by go_num, Lib.hid ?_⟩
          rw [HST.out]
          unfold ofStep
          dsimp only
          rw [if_pos H1.out, if_pos rfl]
          dsimp only [St.cells]
          apply Mem.mem
          · skip
            exact HM.out.to
          intro w8 M
          try simp only [List.set_cons_zero, List.set_cons_succ] at M
          exact Mem.sub M (by repeat first | exact Sub.nil | refine Sub.cons (by with_reducible repeat first | exact ph | apply pt) ?_)
        case measure => simp [intOf]; omega
      have K2 := Lib.hid k2
      have e2 : (kind == 2) = false := by simpa using k2
      by_cases k3 : kind = 3
      · subst k3
        have fM := HM.out.fa
        go_wp2_with fail
        all_goals clear fM
        go_roundw
        case rel =>
          refine ⟨k + 1, by omega, by go_num, Lib.hid ?_⟩
          rw [HST.out]
          unfold ofStep
          dsimp only
          rw [if_pos H1.out, if_neg (by decide), if_pos rfl]
          dsimp only [St.cells]
          apply Mem.mem
          · skip
            exact HM.out.to
          intro w8 M
          try simp only [List.set_cons_zero, List.set_cons_succ] at M
          exact Mem.sub M (by repeat first | exact Sub.nil | refine Sub.cons (by with_reducible repeat first | exact ph | apply pt) ?_)
        case measure => simp [intOf]; omega
      have K3 := Lib.hid k3
      have e3 : (kind == 3) = false := by simpa using k3
      by_cases k4 : kind = 4
      · subst k4
        have fM := HM.out.fa
        go_wp2_with fail
        all_goals clear fM
        go_roundw
        case rel =>
          refine ⟨k + 1, by omega, by go_num, Lib.hid ?_⟩
          rw [HST.out]
          unfold ofStep
          dsimp only
          rw [if_pos H1.out, if_neg (by decide), if_neg (by decide), if_pos rfl]
          dsimp only [St.cells]
          apply Mem.mem
          · skip
            exact HM.out.to
          intro w8 M
          try simp only [List.set_cons_zero, List.set_cons_succ] at M
          exact Mem.sub M (by repeat first | exact Sub.nil | refine Sub.cons (by with_reducible repeat first | exact ph | apply pt) ?_)
        case measure => simp [intOf]; omega
      · have K4 := Lib.hid k4
        have e4 : (kind == 4) = false := by simpa using k4
        have fM := HM.out.fa
        go_wp2_with fail
        all_goals clear fM
        go_roundw
        case rel =>
          refine ⟨k + 1, by omega, by go_num, Lib.hid ?_⟩
          rw [HST.out]
          unfold ofStep
          dsimp only
          rw [if_pos H1.out, if_neg K2.out, if_neg K3.out, if_neg K4.out]
          dsimp only [St.cells]
          apply Mem.mem
          · skip
            exact HM.out.to
          intro w8 M
          try simp only [List.set_cons_zero, List.set_cons_succ] at M
          exact Mem.sub M (by repeat first | exact Sub.nil | refine Sub.cons (by with_reducible repeat first | exact ph | apply pt) ?_)
        case measure => simp [intOf]; omega
    · obtain rfl : k = l.length := by omega
      clear hlt hk
      obtain ⟨⟨s0, s1, s2⟩, hs⟩ : ∃ s, ofK l m l.length = s := ⟨_, rfl⟩
      have HS := Lib.hid hs
      rw [hs] at HM
      unfold St.cells at HM
      clear hs
      have fM := HM.out.fa
      go_wp2_with fail
      all_goals clear fM
      refine nxt HM fun w8 M => ?_
      clear HM; have HM := M; clear M
      obtain ⟨Ahb, hb⟩ := HM.out.get (r := cellsR (w.heap.size + 1) 90 [.bool s0, .int .i64 s1, .int .i64 s2]) (by with_reducible repeat first | exact ph | apply pt)
      have q1 := hb.2.reads.1
      refine bodyPost_ret (v := .agg #[.bool s0, .int .i64 s1, .int .i64 s2]) (by simp [results, Tryd.results60, go_sem, q1]) rfl ⟨by rw [HS.out]; rfl, HM.out.extTo⟩
end Go.Proofs.YthhdgjofagdjeaaDoor
end
section
/- The document's talk: would an entry count, an entry applied that does. Condition: its lines lie as 'RowAt' says; of the table of standings that they are those of the lines. -/
set_option linter.unusedVariables false
set_option linter.unusedSimpArgs false
set_option maxHeartbeats 2000000
set_option maxRecDepth 100000
namespace Go.Proofs.YthhdgjofagdjeaaDoor
open Go.RowKit Go.Shelf

def lnE : Enc Ln := ⟨Ln.cells, 6, fun _ => rfl, fun x u hu => by
  simp only [Ln.cells, List.mem_cons, List.not_mem_nil, or_false] at hu
  rcases hu with rfl | rfl | rfl | rfl | rfl | rfl <;> rfl⟩
def enE : Enc En := ⟨En.cells, 4, fun _ => rfl, fun x u hu => by
  simp only [En.cells, List.mem_cons, List.not_mem_nil, or_false] at hu
  rcases hu with rfl | rfl | rfl | rfl <;> rfl⟩
theorem lnE_row : ∀ l : List Ln, lnE.row l = lnsC l
  | [] => rfl
  | x :: l => by rw [Enc.row, lnE_row l]; simp [lnsC, lnE]
theorem row_lns {w : World} {base : Nat} {v : Value} {l : List Ln} (h : RowAt lnE w base v l) : Win w 0 6 v l.length (lnsC l) := by
  have := Win.mono h (Nat.zero_le _)
  rw [lnE_row] at this
  exact this
theorem infoEn : (Tryd.prog.info? 35).map (fun i => (i.zero, i.size, i.bytes)) = some (some (.agg #[.int .i64 0, .int .i64 0, .int .i64 0, .string ⟨#[]⟩]), 4, 40) := by kernel_rfl
theorem add_lns {W w : World} (ty : TypeId) (hE : Ext W w) {v : Value} {l : List Ln} (hw : RowAt lnE w W.heap.size v l) (x : Value) (l' : List Ln) (hs : SrcCells w x l'.length (lnE.row l')) (hl : l.length + l'.length ≤ 1000000) :
    ∃ v' w', (Builtin.append_ #[42, 42] ty #[v, x]).run Tryd.prog w = .ok v' w' ∧ RowAt lnE w' W.heap.size v' (l ++ l') ∧ Ext W w' := by
  obtain ⟨i0, hi, hz0, hz1, hz2⟩ := info_parts infoLine
  exact fresh_append 42 42 ty 58 i0 _ 56 Tryd.underlying42 Tryd.underlying42 hi hz0 hz1 hz2 rfl hE hw x l' hs (by simp [maxLen]; omega) (by omega)
theorem add_ens {W w : World} (ty : TypeId) (hE : Ext W w) {v : Value} {l : List En} (hw : RowAt enE w W.heap.size v l) (x : Value) (l' : List En) (hs : SrcCells w x l'.length (enE.row l')) (hl : l.length + l'.length ≤ 1000000) :
    ∃ v' w', (Builtin.append_ #[47, 47] ty #[v, x]).run Tryd.prog w = .ok v' w' ∧ RowAt enE w' W.heap.size v' (l ++ l') ∧ Ext W w' := by
  obtain ⟨i0, hi, hz0, hz1, hz2⟩ := info_parts infoEn
  exact fresh_append 47 47 ty 35 i0 _ 40 Tryd.underlying47 Tryd.underlying47 hi hz0 hz1 hz2 rfl hE hw x l' hs (by simp [maxLen]; omega) (by omega)
theorem rwould_any {base : Nat} (w : World) (v : Value) (slot : Int) (T : TA) (e : En) (hv : RowAt lnE w base v T.l) (hl : T.l.length ≤ 4096) (hT : T.Ok) (he : e.text.length ≤ 500000) :
    Calls Tryd.prog 41 #[.agg #[.int .i64 slot, v], e.v] w fun r w' => r = .returned (.bool (enB e && (countsR T e).2)) ∧ Ext w w' := by
  have HV := Lib.hid hv
  have HL := Lib.hid hl
  have HT := Lib.hid hT
  have HTX := Lib.hid he
  have HM := Lib.hid (Mem.start0 w)
  have HEV := Lib.hid (show e.v = .agg #[.int .i64 e.kind, .int .i64 e.member, .int .i64 e.number, .string (bs e.text)] from rfl)
  rw [HEV.out]
  clear hv hl hT he
  go_enter Tryd.func41, Tryd.ntmps41
  have fM := HM.out.fa
  go_wp2_with fail
  all_goals clear fM
  refine nxt HM fun w0 M => ?_
  clear HM; have HM := M; clear M
  rw [← HEV.out]
  refine (entry14_any w0 e HTX.out).mono ?_
  rintro r w1 ⟨rfl, hE⟩
  replace HM := Lib.hid (HM.out.ext hE)
  clear hE
  cases hb : enB e
  · skip
    have HB := Lib.hid hb
    clear hb
    have fM := HM.out.fa
    go_wp2_with fail
    all_goals clear fM
    go_ret
    exact ⟨by rw [HB.out]; simp, HM.out.extTo⟩
  have HB := Lib.hid hb
  obtain ⟨p, hp, h16⟩ := enB_mem hb
  have hcs : ∀ s, ofK T.l e.member T.l.length = s → countsR T e = (if e.kind = 2 then (⟨true, (T.l.length : Int), s.last⟩, !s.inn) else if e.kind = 3 then (⟨false, s.joined, s.last⟩, s.inn) else if e.kind = 4 then (⟨s.inn, s.joined, e.number⟩, saysB s e) else (⟨false, 0, 0⟩, false)) := by
    intro s hs
    unfold countsR
    rw [hp, Int.toNat_natCast, HT.out.2 p h16, ← hp, hs]
  have HCS := Lib.hid hcs
  clear hcs hb hp h16
  have fM := HM.out.fa
  go_wp2_with fail
  all_goals clear fM
  refine nxt HM fun w2 M => ?_
  clear HM; have HM := M; clear M
  refine (of_any w2 v slot e.member T.l (row_lns (HV.out.ext HM.out.extTo)) HL.out).mono ?_
  rintro r w3 ⟨rfl, hE⟩
  replace HM := Lib.hid (HM.out.ext hE)
  clear hE
  obtain ⟨⟨s0, s1, s2⟩, hs⟩ : ∃ s, ofK T.l e.member T.l.length = s := ⟨_, rfl⟩
  have HC := Lib.hid (HCS.out _ hs)
  rw [hs]
  clear hs
  unfold St.v
  by_cases k2 : e.kind = 2
  · have hq : (countsR T e).2 = !s0 := by rw [HC.out, if_pos k2]
    have HQ := Lib.hid hq
    clear hq
    have fM := HM.out.fa
    go_wp2_with fail
    all_goals clear fM
    go_ret
    refine ⟨by rw [HB.out, HQ.out]; simp, ?_⟩
    apply Mem.extTo
    exact HM.out.to
  have e2 : (e.kind == 2) = false := by simpa using k2
  by_cases k3 : e.kind = 3
  · have hq : (countsR T e).2 = s0 := by rw [HC.out, if_neg k2, if_pos k3]
    have HQ := Lib.hid hq
    clear hq k2
    have fM := HM.out.fa
    go_wp2_with fail
    all_goals clear fM
    go_ret
    refine ⟨by rw [HB.out, HQ.out]; simp, ?_⟩
    apply Mem.extTo
    exact HM.out.to
  have e3 : (e.kind == 3) = false := by simpa using k3
  by_cases k4 : e.kind = 4
  · have hq : (countsR T e).2 = (s0 && (e.number == wrap64 (s2 + 1))) := by rw [HC.out, if_neg k2, if_neg k3, if_pos k4]; rfl
    have HQ := Lib.hid hq
    clear hq k2 k3
    cases s0
    · skip
      have fM := HM.out.fa
      go_wp2_with fail
      all_goals clear fM
      go_ret
      refine ⟨by rw [HB.out, HQ.out]; simp, ?_⟩
      apply Mem.extTo
      exact HM.out.to
    · skip
      have fM := HM.out.fa
      go_wp2_with fail
      all_goals clear fM
      go_ret
      refine ⟨by rw [HB.out, HQ.out]; simp, ?_⟩
      apply Mem.extTo
      exact HM.out.to
  · have hq : (countsR T e).2 = false := by rw [HC.out, if_neg k2, if_neg k3, if_neg k4]
    have HQ := Lib.hid hq
    have e4 : (e.kind == 4) = false := by simpa using k4
    clear hq k2 k3 k4
    have fM := HM.out.fa
    go_wp2_with fail
    all_goals clear fM
    go_ret
    refine ⟨by rw [HB.out, HQ.out]; simp, ?_⟩
    apply Mem.extTo
    exact HM.out.to

section
variable {F : Nat → Prop} {w0 W wc : World} {L : List Res} {base g c : Nat} {v : Value} {t : TypeId}
theorem Mem.copyLns {l : List Ln} (ty : TypeId) (h : Mem F w0 wc (cellsR g t [] :: L)) (hE : Ext W wc) (hb : W.heap.size ≤ g) (hv : RowAt lnE W base v l) (hl : l.length ≤ 4096) :
    ∃ v' w', (Builtin.append_ #[42, 42] ty #[.slice (some ⟨g, 0, none⟩) 0 0, v]).run Tryd.prog wc = .ok v' w' ∧ Mem F w0 w' (rowR lnE v' l :: L) ∧ Ext W w' ∧ ∀ k, Own v' k → W.heap.size ≤ k := by
  obtain ⟨i0, hi, hz0, hz1, hz2⟩ := info_parts infoLine
  exact Mem.rowUp (l := []) 42 42 ty 58 i0 _ 56 Tryd.underlying42 Tryd.underlying42 hi hz0 hz1 hz2 rfl h (fun A hA => row_of_empty hA) hE (own_at hb) v l (hv.ext hE).src (by simp [maxLen]; omega) (by simp; omega)
theorem Mem.addLn {l : List Ln} {L' : List Res} (x : Ln) (ty : TypeId) (h : Mem F w0 wc L) (p : Pick L (rowR lnE v l) L') (hE : Ext W wc) (hn : ∀ k, Own v k → W.heap.size ≤ k) (hx : ∀ o, wc.cell? ⟨g, o, none⟩ = (Ln.cells x)[o]?) (hl : l.length ≤ 4096) :
    ∃ v' w', (Builtin.append_ #[42, 42] ty #[v, .slice (some ⟨g, 0, none⟩) 1 c]).run Tryd.prog wc = .ok v' w' ∧ Mem F w0 w' (rowR lnE v' (l ++ [x]) :: L') ∧ Ext W w' ∧ ∀ k, Own v' k → W.heap.size ≤ k := by
  obtain ⟨i0, hi, hz0, hz1, hz2⟩ := info_parts infoLine
  exact Mem.rowUp 42 42 ty 58 i0 _ 56 Tryd.underlying42 Tryd.underlying42 hi hz0 hz1 hz2 rfl (h.pick p) (fun A hA => row_of_row hA) hE hn _ [x] (one_src hx) (by simp [maxLen]; omega) (by simp; omega)
theorem Mem.copyEns {l : List En} (ty : TypeId) (h : Mem F w0 wc (cellsR g t [] :: L)) (hE : Ext W wc) (hb : W.heap.size ≤ g) (hv : RowAt enE W base v l) (hl : l.length ≤ 4096) :
    ∃ v' w', (Builtin.append_ #[47, 47] ty #[.slice (some ⟨g, 0, none⟩) 0 0, v]).run Tryd.prog wc = .ok v' w' ∧ Mem F w0 w' (rowR enE v' l :: L) ∧ Ext W w' ∧ ∀ k, Own v' k → W.heap.size ≤ k := by
  obtain ⟨i0, hi, hz0, hz1, hz2⟩ := info_parts infoEn
  exact Mem.rowUp (l := []) 47 47 ty 35 i0 _ 40 Tryd.underlying47 Tryd.underlying47 hi hz0 hz1 hz2 rfl h (fun A hA => row_of_empty hA) hE (own_at hb) v l (hv.ext hE).src (by simp [maxLen]; omega) (by simp; omega)
theorem Mem.addEn {l : List En} {L' : List Res} (x : En) (ty : TypeId) (h : Mem F w0 wc L) (p : Pick L (rowR enE v l) L') (hE : Ext W wc) (hn : ∀ k, Own v k → W.heap.size ≤ k) (hx : ∀ o, wc.cell? ⟨g, o, none⟩ = (En.cells x)[o]?) (hl : l.length ≤ 4096) :
    ∃ v' w', (Builtin.append_ #[47, 47] ty #[v, .slice (some ⟨g, 0, none⟩) 1 c]).run Tryd.prog wc = .ok v' w' ∧ Mem F w0 w' (rowR enE v' (l ++ [x]) :: L') ∧ Ext W w' ∧ ∀ k, Own v' k → W.heap.size ≤ k := by
  obtain ⟨i0, hi, hz0, hz1, hz2⟩ := info_parts infoEn
  exact Mem.rowUp 47 47 ty 35 i0 _ 40 Tryd.underlying47 Tryd.underlying47 hi hz0 hz1 hz2 rfl (h.pick p) (fun A hA => row_of_row hA) hE hn _ [x] (one_src hx) (by simp [maxLen]; omega) (by simp; omega)
end
theorem rapply_any {base : Nat} (w : World) (v : Value) (T : TA) (e : En) (hv : RowAt lnE w base v T.l) (hl : T.l.length ≤ 4096) (hT : T.Ok) (he : e.text.length ≤ 500000) (hb : enB e = true) (hc : (countsR T e).2 = true) (h0 : 0 ≤ T.slot) (h4 : T.slot < 4096) :
    Calls Tryd.prog 42 #[.agg #[.int .i64 T.slot, v], .int .i64 T.slot, e.v] w fun r w' =>
      ∃ v', r = .returned (.tuple #[.agg #[.int .i64 (T.slot + 1), v'], (⟨(T.l.length : Int), T.slot, e⟩ : Ln).v, .bool true, .int .i64 0]) ∧ RowAt lnE w' w.heap.size v' (T.put e).l ∧ Ext w w' := by
  have HV := Lib.hid hv
  have HL := Lib.hid hl
  have HT := Lib.hid hT
  have HTX := Lib.hid he
  have HB := Lib.hid hb
  have HC := Lib.hid hc
  have HM := Lib.hid (Mem.start0 w)
  have HEV := Lib.hid (show e.v = .agg #[.int .i64 e.kind, .int .i64 e.member, .int .i64 e.number, .string (bs e.text)] from rfl)
  have g1 : ¬ 4096 ≤ T.slot := by omega
  obtain ⟨a, c, rfl⟩ := hv.len
  rw [HEV.out]
  clear hv hl hT he hb hc
  go_enter Tryd.func42, Tryd.ntmps42
  have fM := HM.out.fa
  go_wp2_with fail
  all_goals clear fM
  refine nxt HM fun w0 M => ?_
  clear HM; have HM := M; clear M
  rw [← HEV.out]
  refine (entry14_any w0 e HTX.out).mono ?_
  rintro r w1 ⟨rfl, hE⟩
  replace HM := Lib.hid (HM.out.ext hE)
  clear hE
  rw [HB.out]
  have fM := HM.out.fa
  go_wp2_with fail
  all_goals clear fM
  refine nxt HM fun w2 M => ?_
  clear HM; have HM := M; clear M
  rw [← HEV.out]
  refine (rwould_any w2 _ T.slot T e (HV.out.ext HM.out.extTo) HL.out HT.out HTX.out).mono ?_
  rintro r w3 ⟨rfl, hE⟩
  replace HM := Lib.hid (HM.out.ext hE)
  clear hE
  rw [HB.out, HC.out]
  have hww : wrap64 (T.slot + 1) = T.slot + 1 := IntWalk.wrap64_in _ (by omega)
  have fM := HM.out.fa
  go_wp2_with fail
  all_goals clear fM
  refine nxt HM fun w4 M => ?_
  clear HM; have HM := M; clear M
  have HE4 := Lib.hid HM.out.extTo
  have HV4 := Lib.hid (HV.out.ext HM.out.extTo)
  have fM := HM.out.fa
  have hE0 : Keeps NoB w4 w4.drew := (Keeps.refl _ _).drew
  refine wp_region_forks [2, 4] [0, 3, 5, 6, 7, 8] (ClsE w4) (by kernel_rfl) ?_
  refine any_seg (L := #[false, true, true, false, true, false, false, false, false]) [(0, 1), (1, 2), (1, 4)] 6 (by kernel_rfl) (fun _ _ _ d _ h => by cases d <;> exact h) (by kernel_rfl) (by kernel_rfl) rfl rfl (ClsE.of (by repeat (first | assumption | exact Keeps.refl _ _ | refine Keeps.alloc ?_ _ | refine Keeps.setOne ?_ _ _ | refine Keeps.setCell ?_ _ _ (.inl (by first | rfl | exact .inl rfl | exact .inr rfl | omega)) | refine Keeps.drew ?_))) ?_; simp only [planL, nL]
  refine pR (v := ?_) rfl (fun W => ?_) ?_; rotate_left; (go_simp <;> with_reducible rfl); simp only [nP]
  iterate 2 (refine pL (v := ?_) rfl (fun W => ?_) ?_; rotate_left; (go_simp <;> with_reducible rfl); simp only [nP])
  refine plan_nil ?_
  refine any_fork 0 5 (by kernel_rfl) (by kernel_rfl) rfl rfl rfl rfl (fun K hK => ?_) (fun K hK => ?_)
  · skip
    go_wp2_with fail
    refine ⟨ClsE.of (by repeat (first | assumption | exact Keeps.refl _ _ | refine Keeps.alloc ?_ _ | refine Keeps.setOne ?_ _ _ | refine Keeps.setCell ?_ _ _ (.inl (by first | rfl | exact .inl rfl | exact .inr rfl | omega)) | refine Keeps.drew ?_)), ?_⟩; try simp only [nP]
    refine any_seg (L := #[true, true, true, false, true, false, false, false, false]) [] 5 (by kernel_rfl) (fun _ _ _ d _ h => by cases d <;> exact h) (by kernel_rfl) (by kernel_rfl) rfl rfl (ClsE.of (by repeat (first | assumption | exact Keeps.refl _ _ | refine Keeps.alloc ?_ _ | refine Keeps.setOne ?_ _ _ | refine Keeps.setCell ?_ _ _ (.inl (by first | rfl | exact .inl rfl | exact .inr rfl | omega)) | refine Keeps.drew ?_))) ?_; simp only [planL, nL]
    refine plan_nil ?_
    refine any_fork 3 5 (by kernel_rfl) (by kernel_rfl) rfl rfl rfl rfl (fun K hK => ?_) (fun K hK => ?_)
    · skip
      refine Mem.oper (wr := w4) HM.out.to (by repeat (first | assumption | exact Keeps.refl _ _ | with_reducible apply Keeps.drew | with_reducible apply Keeps.alloc)) fun w5 M hE5 => ?_
      replace HM := Lib.hid M
      clear M
      obtain ⟨v6, w6, hr, hm, hE6, hn6⟩ := Mem.copyLns 42 (HM.out.pick (r := cellsR _ 58 []) (by with_reducible repeat first | exact ph | apply pt)) hE5 (by first | exact Nat.le_refl _ | omega) HV4.out HL.out
      replace HM := Lib.hid hm
      have HN6 := Lib.hid hn6
      refine oper_append_ran _ _ hr rfl rfl rfl ?_
      clear hr hm hn6 hE5
      refine hK _ _ ⟨ClsE.of (by assumption), ?_⟩; clear hK K; try simp only [nP]
      refine any_end [(2, 5)] [6, 7, 8] (by kernel_rfl) (fun _ _ _ d _ h => by cases d <;> exact h) (by kernel_rfl) (by kernel_rfl) rfl rfl (ClsE.of (by repeat (first | assumption | exact Keeps.refl _ _ | refine Keeps.alloc ?_ _ | refine Keeps.setOne ?_ _ _ | refine Keeps.setCell ?_ _ _ (.inl (by first | rfl | exact .inl rfl | exact .inr rfl | omega)) | refine Keeps.drew ?_))) ?_; simp only [planL, nL]
      refine plan_does rfl (fun K hK => ?_)
      go_wp2_with fail
      refine ⟨ClsE.of (by repeat (first | assumption | exact Keeps.refl _ _ | refine Keeps.alloc ?_ _ | refine Keeps.setOne ?_ _ _ | refine Keeps.setCell ?_ _ _ (.inl (by first | rfl | exact .inl rfl | exact .inr rfl | omega)) | refine Keeps.drew ?_)), ?_⟩; try simp only [nP]
      refine plan_nil ?_; simp only [tailL, List.filterMap_cons, List.filterMap_nil, nL]; change wpList _ _ _ (_ :: _ :: _ :: []) _ _
      clear fM
      try clear hE6
      have fM := HM.out.fa
      go_wp2_with (at_builtin; refine standing ?_)
      all_goals clear fM
      refine nxt HM fun w7 M => ?_
      clear HM; have HM := M; clear M
      obtain ⟨Ahb, hb⟩ := HM.out.get (r := cellsR _ 58 [.int .i64 (T.l.length : Int), .int .i64 T.slot, .int .i64 e.kind, .int .i64 e.member, .int .i64 e.number, .string (bs e.text)]) (by with_reducible repeat first | exact ph | apply pt)
      obtain ⟨v8, w8, hr, hm, -, hn8⟩ := Mem.addLn (c := 1) ⟨(T.l.length : Int), T.slot, e⟩ 42 HM.out (by with_reducible repeat first | exact ph | apply pt) HM.out.extTo (fun k hk => Nat.le_trans HE4.out.size (HN6.out k hk)) hb.2.reads.1 HL.out
      obtain ⟨l8, hl8⟩ : ∃ l8, T.l ++ [(⟨(T.l.length : Int), T.slot, e⟩ : Ln)] = l8 := ⟨_, rfl⟩
      rw [hl8] at hm
      have HL8 := Lib.hid hl8
      clear hl8
      obtain ⟨p8, c8, rfl⟩ := hm.fact (fun A h => row_len h)
      replace HM := Lib.hid hm
      refine ⟨?_⟩
      refine wpList_append_ran rfl _ _ hr rfl rfl rfl ?_
      clear hr hm hn8 hb
      try clear Ahb
      have fM := HM.out.fa
      go_wp2_with fail
      all_goals clear fM
      refine nxt HM fun w9 M => ?_
      clear HM; have HM := M; clear M
      have fM := HM.out.fa
      have hE0 : Keeps (OneB (w.heap.size + 1 + 1)) w9 w9.drew := (Keeps.refl _ _).drew
      refine wp_region_plan [(3, 0), (1, 1), (2, 2)] [1] [2, 3, 4, 5] [3, 4, 5] (ClsK (OneB (w.heap.size + 1 + 1)) w9) (by kernel_rfl) (by kernel_rfl) (by kernel_rfl) rfl rfl (ClsK.of hE0) (fun _ _ _ d _ h => by cases d <;> exact h) ?_; simp only [planL, nL]
      refine pX (v := ?_) rfl ?_ ?_; rotate_left; (go_simp <;> with_reducible rfl); simp only [nP]
      refine pK (v := ?_) rfl (fun W => ?_) ?_; rotate_left; (go_simp <;> with_reducible rfl); simp only [nP]
      refine plan_does rfl (fun K hK => ?_)
      go_wp2_with fail
      refine ⟨ClsK.of (by repeat (first | assumption | exact Keeps.refl _ _ | refine Keeps.alloc ?_ _ | refine Keeps.setOne ?_ _ _ | refine Keeps.setCell ?_ _ _ (.inl (by first | rfl | exact .inl rfl | exact .inr rfl | omega)) | refine Keeps.drew ?_)), ?_⟩; try simp only [nP]
      refine plan_nil ?_; simp only [tailL, List.filterMap_cons, List.filterMap_nil, nL]; change wpList _ _ _ (_ :: _ :: _ :: []) _ _
      go_wp2_with fail
      clear fM
      refine nxt HM fun w10 M => ?_
      clear HM; have HM := M; clear M
      obtain ⟨Ahb6, hb6⟩ := HM.out.get (r := cellsR (w.heap.size + 1 + 1) 44 [.int .i64 (T.slot + 1), .slice p8 l8.length c8]) (by with_reducible repeat first | exact ph | apply pt)
      obtain ⟨Ahb7, hb7⟩ := HM.out.get (r := cellsR (w.heap.size + 1 + 1 + 1) 58 [.int .i64 (T.l.length : Int), .int .i64 T.slot, .int .i64 e.kind, .int .i64 e.member, .int .i64 e.number, .string (bs e.text)]) (by with_reducible repeat first | exact ph | apply pt)
      have q6 := hb6.2.reads.1
      have q7 := hb7.2.reads.1
      have hU := (HM.out.pick (r := rowR lnE (.slice p8 l8.length c8) l8) (by with_reducible repeat first | exact ph | apply pt)).upd.row
      refine bodyPost_ret (v := .tuple #[.agg #[.int .i64 (T.slot + 1), .slice p8 l8.length c8], (⟨(T.l.length : Int), T.slot, e⟩ : Ln).v, .bool true, .int .i64 0]) (by simp [results, Tryd.results42, go_sem, q6, q7, Ln.v]) rfl ⟨_, rfl, ?_, hU.2⟩
      rw [show (T.put e).l = l8 from HL8.out]
      exact hU.1
    · skip
      go_wp2_with fail
      refine ⟨ClsE.of (by repeat (first | assumption | exact Keeps.refl _ _ | refine Keeps.alloc ?_ _ | refine Keeps.setOne ?_ _ _ | refine Keeps.setCell ?_ _ _ (.inl (by first | rfl | exact .inl rfl | exact .inr rfl | omega)) | refine Keeps.drew ?_)), ?_⟩; try simp only [nP]
      refine any_end [(2, 3)] [6, 7, 8] (by kernel_rfl) (fun _ _ _ d _ h => by cases d <;> exact h) (by kernel_rfl) (by kernel_rfl) rfl rfl (ClsE.of (by repeat (first | assumption | exact Keeps.refl _ _ | refine Keeps.alloc ?_ _ | refine Keeps.setOne ?_ _ _ | refine Keeps.setCell ?_ _ _ (.inl (by first | rfl | exact .inl rfl | exact .inr rfl | omega)) | refine Keeps.drew ?_))) ?_; simp only [planL, nL]
      refine plan_does rfl (fun K hK => ?_)
      refine Mem.oper (wr := w4) HM.out.to (by repeat (first | assumption | exact Keeps.refl _ _ | with_reducible apply Keeps.drew | with_reducible apply Keeps.alloc)) fun w5 M hE5 => ?_
      replace HM := Lib.hid M
      clear M
      obtain ⟨v6, w6, hr, hm, hE6, hn6⟩ := Mem.copyLns 42 (HM.out.pick (r := cellsR _ 58 []) (by with_reducible repeat first | exact ph | apply pt)) hE5 (by first | exact Nat.le_refl _ | omega) HV4.out HL.out
      replace HM := Lib.hid hm
      have HN6 := Lib.hid hn6
      refine oper_append_ran _ _ hr rfl rfl rfl ?_
      clear hr hm hn6 hE5
      refine hK _ _ ⟨ClsE.of (by assumption), ?_⟩; clear hK K; try simp only [nP]
      refine plan_nil ?_; simp only [tailL, List.filterMap_cons, List.filterMap_nil, nL]; change wpList _ _ _ (_ :: _ :: _ :: []) _ _
      clear fM
      try clear hE6
      have fM := HM.out.fa
      go_wp2_with (at_builtin; refine standing ?_)
      all_goals clear fM
      refine nxt HM fun w7 M => ?_
      clear HM; have HM := M; clear M
      obtain ⟨Ahb, hb⟩ := HM.out.get (r := cellsR _ 58 [.int .i64 (T.l.length : Int), .int .i64 T.slot, .int .i64 e.kind, .int .i64 e.member, .int .i64 e.number, .string (bs e.text)]) (by with_reducible repeat first | exact ph | apply pt)
      obtain ⟨v8, w8, hr, hm, -, hn8⟩ := Mem.addLn (c := 1) ⟨(T.l.length : Int), T.slot, e⟩ 42 HM.out (by with_reducible repeat first | exact ph | apply pt) HM.out.extTo (fun k hk => Nat.le_trans HE4.out.size (HN6.out k hk)) hb.2.reads.1 HL.out
      obtain ⟨l8, hl8⟩ : ∃ l8, T.l ++ [(⟨(T.l.length : Int), T.slot, e⟩ : Ln)] = l8 := ⟨_, rfl⟩
      rw [hl8] at hm
      have HL8 := Lib.hid hl8
      clear hl8
      obtain ⟨p8, c8, rfl⟩ := hm.fact (fun A h => row_len h)
      replace HM := Lib.hid hm
      refine ⟨?_⟩
      refine wpList_append_ran rfl _ _ hr rfl rfl rfl ?_
      clear hr hm hn8 hb
      try clear Ahb
      have fM := HM.out.fa
      go_wp2_with fail
      all_goals clear fM
      refine nxt HM fun w9 M => ?_
      clear HM; have HM := M; clear M
      have fM := HM.out.fa
      have hE0 : Keeps (OneB (w.heap.size + 1 + 1)) w9 w9.drew := (Keeps.refl _ _).drew
      refine wp_region_plan [(3, 0), (1, 1), (2, 2)] [1] [2, 3, 4, 5] [3, 4, 5] (ClsK (OneB (w.heap.size + 1 + 1)) w9) (by kernel_rfl) (by kernel_rfl) (by kernel_rfl) rfl rfl (ClsK.of hE0) (fun _ _ _ d _ h => by cases d <;> exact h) ?_; simp only [planL, nL]
      refine pX (v := ?_) rfl ?_ ?_; rotate_left; (go_simp <;> with_reducible rfl); simp only [nP]
      refine pK (v := ?_) rfl (fun W => ?_) ?_; rotate_left; (go_simp <;> with_reducible rfl); simp only [nP]
      refine plan_does rfl (fun K hK => ?_)
      go_wp2_with fail
      refine ⟨ClsK.of (by repeat (first | assumption | exact Keeps.refl _ _ | refine Keeps.alloc ?_ _ | refine Keeps.setOne ?_ _ _ | refine Keeps.setCell ?_ _ _ (.inl (by first | rfl | exact .inl rfl | exact .inr rfl | omega)) | refine Keeps.drew ?_)), ?_⟩; try simp only [nP]
      refine plan_nil ?_; simp only [tailL, List.filterMap_cons, List.filterMap_nil, nL]; change wpList _ _ _ (_ :: _ :: _ :: []) _ _
      go_wp2_with fail
      clear fM
      refine nxt HM fun w10 M => ?_
      clear HM; have HM := M; clear M
      obtain ⟨Ahb6, hb6⟩ := HM.out.get (r := cellsR (w.heap.size + 1 + 1) 44 [.int .i64 (T.slot + 1), .slice p8 l8.length c8]) (by with_reducible repeat first | exact ph | apply pt)
      obtain ⟨Ahb7, hb7⟩ := HM.out.get (r := cellsR (w.heap.size + 1 + 1 + 1) 58 [.int .i64 (T.l.length : Int), .int .i64 T.slot, .int .i64 e.kind, .int .i64 e.member, .int .i64 e.number, .string (bs e.text)]) (by with_reducible repeat first | exact ph | apply pt)
      have q6 := hb6.2.reads.1
      have q7 := hb7.2.reads.1
      have hU := (HM.out.pick (r := rowR lnE (.slice p8 l8.length c8) l8) (by with_reducible repeat first | exact ph | apply pt)).upd.row
      refine bodyPost_ret (v := .tuple #[.agg #[.int .i64 (T.slot + 1), .slice p8 l8.length c8], (⟨(T.l.length : Int), T.slot, e⟩ : Ln).v, .bool true, .int .i64 0]) (by simp [results, Tryd.results42, go_sem, q6, q7, Ln.v]) rfl ⟨_, rfl, ?_, hU.2⟩
      rw [show (T.put e).l = l8 from HL8.out]
      exact hU.1
  · skip
    go_wp2_with fail
    refine ⟨ClsE.of (by repeat (first | assumption | exact Keeps.refl _ _ | refine Keeps.alloc ?_ _ | refine Keeps.setOne ?_ _ _ | refine Keeps.setCell ?_ _ _ (.inl (by first | rfl | exact .inl rfl | exact .inr rfl | omega)) | refine Keeps.drew ?_)), ?_⟩; try simp only [nP]
    refine any_end [(2, 0), (2, 3)] [6, 7, 8] (by kernel_rfl) (fun _ _ _ d _ h => by cases d <;> exact h) (by kernel_rfl) (by kernel_rfl) rfl rfl (ClsE.of (by repeat (first | assumption | exact Keeps.refl _ _ | refine Keeps.alloc ?_ _ | refine Keeps.setOne ?_ _ _ | refine Keeps.setCell ?_ _ _ (.inl (by first | rfl | exact .inl rfl | exact .inr rfl | omega)) | refine Keeps.drew ?_))) ?_; simp only [planL, nL]
    refine plan_does rfl (fun K hK => ?_)
    go_wp2_with fail
    refine ⟨ClsE.of (by repeat (first | assumption | exact Keeps.refl _ _ | refine Keeps.alloc ?_ _ | refine Keeps.setOne ?_ _ _ | refine Keeps.setCell ?_ _ _ (.inl (by first | rfl | exact .inl rfl | exact .inr rfl | omega)) | refine Keeps.drew ?_)), ?_⟩; try simp only [nP]
    refine plan_does rfl (fun K hK => ?_)
    refine Mem.oper (wr := w4) HM.out.to (by repeat (first | assumption | exact Keeps.refl _ _ | with_reducible apply Keeps.drew | with_reducible apply Keeps.alloc)) fun w5 M hE5 => ?_
    replace HM := Lib.hid M
    clear M
    obtain ⟨v6, w6, hr, hm, hE6, hn6⟩ := Mem.copyLns 42 (HM.out.pick (r := cellsR _ 58 []) (by with_reducible repeat first | exact ph | apply pt)) hE5 (by first | exact Nat.le_refl _ | omega) HV4.out HL.out
    replace HM := Lib.hid hm
    have HN6 := Lib.hid hn6
    refine oper_append_ran _ _ hr rfl rfl rfl ?_
    clear hr hm hn6 hE5
    refine hK _ _ ⟨ClsE.of (by assumption), ?_⟩; clear hK K; try simp only [nP]
    refine plan_nil ?_; simp only [tailL, List.filterMap_cons, List.filterMap_nil, nL]; change wpList _ _ _ (_ :: _ :: _ :: []) _ _
    clear fM
    try clear hE6
    have fM := HM.out.fa
    go_wp2_with (at_builtin; refine standing ?_)
    all_goals clear fM
    refine nxt HM fun w7 M => ?_
    clear HM; have HM := M; clear M
    obtain ⟨Ahb, hb⟩ := HM.out.get (r := cellsR _ 58 [.int .i64 (T.l.length : Int), .int .i64 T.slot, .int .i64 e.kind, .int .i64 e.member, .int .i64 e.number, .string (bs e.text)]) (by with_reducible repeat first | exact ph | apply pt)
    obtain ⟨v8, w8, hr, hm, -, hn8⟩ := Mem.addLn (c := 1) ⟨(T.l.length : Int), T.slot, e⟩ 42 HM.out (by with_reducible repeat first | exact ph | apply pt) HM.out.extTo (fun k hk => Nat.le_trans HE4.out.size (HN6.out k hk)) hb.2.reads.1 HL.out
    obtain ⟨l8, hl8⟩ : ∃ l8, T.l ++ [(⟨(T.l.length : Int), T.slot, e⟩ : Ln)] = l8 := ⟨_, rfl⟩
    rw [hl8] at hm
    have HL8 := Lib.hid hl8
    clear hl8
    obtain ⟨p8, c8, rfl⟩ := hm.fact (fun A h => row_len h)
    replace HM := Lib.hid hm
    refine ⟨?_⟩
    refine wpList_append_ran rfl _ _ hr rfl rfl rfl ?_
    clear hr hm hn8 hb
    try clear Ahb
    have fM := HM.out.fa
    go_wp2_with fail
    all_goals clear fM
    refine nxt HM fun w9 M => ?_
    clear HM; have HM := M; clear M
    have fM := HM.out.fa
    have hE0 : Keeps (OneB (w.heap.size + 1 + 1)) w9 w9.drew := (Keeps.refl _ _).drew
    refine wp_region_plan [(3, 0), (1, 1), (2, 2)] [1] [2, 3, 4, 5] [3, 4, 5] (ClsK (OneB (w.heap.size + 1 + 1)) w9) (by kernel_rfl) (by kernel_rfl) (by kernel_rfl) rfl rfl (ClsK.of hE0) (fun _ _ _ d _ h => by cases d <;> exact h) ?_; simp only [planL, nL]
    refine pX (v := ?_) rfl ?_ ?_; rotate_left; (go_simp <;> with_reducible rfl); simp only [nP]
    refine pK (v := ?_) rfl (fun W => ?_) ?_; rotate_left; (go_simp <;> with_reducible rfl); simp only [nP]
    refine plan_does rfl (fun K hK => ?_)
    go_wp2_with fail
    refine ⟨ClsK.of (by repeat (first | assumption | exact Keeps.refl _ _ | refine Keeps.alloc ?_ _ | refine Keeps.setOne ?_ _ _ | refine Keeps.setCell ?_ _ _ (.inl (by first | rfl | exact .inl rfl | exact .inr rfl | omega)) | refine Keeps.drew ?_)), ?_⟩; try simp only [nP]
    refine plan_nil ?_; simp only [tailL, List.filterMap_cons, List.filterMap_nil, nL]; change wpList _ _ _ (_ :: _ :: _ :: []) _ _
    go_wp2_with fail
    clear fM
    refine nxt HM fun w10 M => ?_
    clear HM; have HM := M; clear M
    obtain ⟨Ahb6, hb6⟩ := HM.out.get (r := cellsR (w.heap.size + 1 + 1) 44 [.int .i64 (T.slot + 1), .slice p8 l8.length c8]) (by with_reducible repeat first | exact ph | apply pt)
    obtain ⟨Ahb7, hb7⟩ := HM.out.get (r := cellsR (w.heap.size + 1 + 1 + 1) 58 [.int .i64 (T.l.length : Int), .int .i64 T.slot, .int .i64 e.kind, .int .i64 e.member, .int .i64 e.number, .string (bs e.text)]) (by with_reducible repeat first | exact ph | apply pt)
    have q6 := hb6.2.reads.1
    have q7 := hb7.2.reads.1
    have hU := (HM.out.pick (r := rowR lnE (.slice p8 l8.length c8) l8) (by with_reducible repeat first | exact ph | apply pt)).upd.row
    refine bodyPost_ret (v := .tuple #[.agg #[.int .i64 (T.slot + 1), .slice p8 l8.length c8], (⟨(T.l.length : Int), T.slot, e⟩ : Ln).v, .bool true, .int .i64 0]) (by simp [results, Tryd.results42, go_sem, q6, q7, Ln.v]) rfl ⟨_, rfl, ?_, hU.2⟩
    rw [show (T.put e).l = l8 from HL8.out]
    exact hU.1
end Go.Proofs.YthhdgjofagdjeaaDoor
end
section
/- The document's judge as a value, and whether an entry was put in. Condition: it reads as 'RefAt' says. -/
set_option linter.unusedVariables false
set_option linter.unusedSimpArgs false
set_option maxHeartbeats 2000000
set_option maxRecDepth 100000
namespace Go.Proofs.YthhdgjofagdjeaaDoor
open Go.RowKit Go.Shelf
theorem eq_en (x e : En) (w : World) : (binOp .eql 35 (.agg #[.int .i64 x.kind, .int .i64 x.member, .int .i64 x.number, .string (bs x.text)]) (.agg #[.int .i64 e.kind, .int .i64 e.member, .int .i64 e.number, .string (bs e.text)])).run Tryd.prog w = .ok (.bool (decide (x = e))) w := by
  go_simp
  obtain ⟨a, b, c, d⟩ := x
  obtain ⟨a', b', c', d'⟩ := e
  dsimp only
  rw [bs_toList, bs_toList]
  split
  · split
    · split
      · split
        · rw [decide_eq_true (by simp_all)]
        · rw [decide_eq_false (by simp_all)]
      · rw [decide_eq_false (by simp_all)]
    · rw [decide_eq_false (by simp_all)]
  · rw [decide_eq_false (by simp_all)]
theorem ne_en (x e : En) (w : World) : (binOp .neq 35 (.agg #[.int .i64 x.kind, .int .i64 x.member, .int .i64 x.number, .string (bs x.text)]) (.agg #[.int .i64 e.kind, .int .i64 e.member, .int .i64 e.number, .string (bs e.text)])).run Tryd.prog w = .ok (.bool (!decide (x = e))) w := by
  go_simp
  obtain ⟨a, b, c, d⟩ := x
  obtain ⟨a', b', c', d'⟩ := e
  dsimp only
  rw [bs_toList, bs_toList]
  split
  · split
    · split
      · split
        · rw [decide_eq_true (by simp_all)]; rfl
        · rw [decide_eq_false (by simp_all)]; rfl
      · rw [decide_eq_false (by simp_all)]; rfl
    · rw [decide_eq_false (by simp_all)]; rfl
  · rw [decide_eq_false (by simp_all)]; rfl
def JA.rcells (J : JA) (vl vp : Value) : List Value := [.int .i64 J.n, .int .i64 J.m, .int .i64 J.T.slot, vl] ++ (J.told.map iV ++ (J.next.map iV ++ [vp, .int .i64 J.broken]))
def RefAt (w : World) (A : Nat → Prop) (J : JA) (cs : List Value) : Prop :=
  ∃ vl vp, cs = J.rcells vl vp ∧ RowAt lnE w 0 vl J.T.l ∧ (∀ k, Own vl k → A k) ∧ RowAt enE w 0 vp J.put ∧ (∀ k, Own vp k → A k) ∧ J.told.length = 9 ∧ J.next.length = 16
theorem RefAt.keeps {w w' : World} {A S : Nat → Prop} {J : JA} {cs : List Value} (h : RefAt w A J cs) (hk : Keeps S w w') (hS : ∀ k, A k → ¬ S k) : RefAt w' A J cs :=
  let ⟨vl, vp, h1, h2, h3, h4, h5, h6⟩ := h
  ⟨vl, vp, h1, h2.keeps hk fun k hk => hS k (h3 k hk), h3, h4.keeps hk fun k hk => hS k (h5 k hk), h5, h6⟩
theorem RefAt.ext {w w' : World} {A : Nat → Prop} {J : JA} {cs : List Value} (h : RefAt w A J cs) (hk : Ext w w') : RefAt w' A J cs := h.keeps hk fun _ _ => noB _
theorem RefAt.mono {w : World} {A A' : Nat → Prop} {J : JA} {cs : List Value} (h : RefAt w A J cs) (hA : ∀ k, A k → A' k) : RefAt w A' J cs :=
  let ⟨vl, vp, h1, h2, h3, h4, h5, h6⟩ := h
  ⟨vl, vp, h1, h2, fun k hk => hA k (h3 k hk), h4, fun k hk => hA k (h5 k hk), h6⟩
section
variable (J : JA) (vl vp : Value)
theorem JA.rcells_len (h9 : J.told.length = 9) (h16 : J.next.length = 16) : (J.rcells vl vp).length = 31 := by simp [JA.rcells, h9, h16]
theorem JA.rcells_one (a b : Option Addr) (n c m d : Nat) : ∀ u ∈ J.rcells (.slice a n c) (.slice b m d), u.oneCell' = true := by
  intro u hu
  simp only [JA.rcells, List.mem_append, List.mem_cons, List.not_mem_nil, or_false, List.mem_map] at hu
  rcases hu with (rfl | rfl | rfl | rfl) | (⟨x, _, rfl⟩ | (⟨x, _, rfl⟩ | rfl | rfl)) <;> rfl
theorem JA.rat (h9 : J.told.length = 9) (h16 : J.next.length = 16) :
    (J.rcells vl vp)[0]? = some (.int .i64 J.n) ∧ (J.rcells vl vp)[1]? = some (.int .i64 J.m) ∧ (J.rcells vl vp)[2]? = some (.int .i64 J.T.slot) ∧ (J.rcells vl vp)[3]? = some vl ∧
    (∀ p, p < 9 → (J.rcells vl vp)[4 + p]? = some (.int .i64 (J.told.getD p 0))) ∧ (∀ p, p < 16 → (J.rcells vl vp)[13 + p]? = some (.int .i64 (J.next.getD p 0))) ∧
    (J.rcells vl vp)[29]? = some vp ∧ (J.rcells vl vp)[30]? = some (.int .i64 J.broken) := by
  have a1 : (J.told.map iV).length = 9 := by rw [List.length_map, h9]
  have a2 : (J.next.map iV).length = 16 := by rw [List.length_map, h16]
  have key : ∀ j, (J.rcells vl vp)[29 + j]? = ([vp, .int .i64 J.broken] : List Value)[j]? := by
    intro j
    unfold JA.rcells
    rw [List.getElem?_append_right (by show 4 ≤ 29 + j; omega), List.getElem?_append_right (by rw [a1]; show 9 ≤ 29 + j - 4; omega), List.getElem?_append_right (by rw [a1, a2]; show 16 ≤ 29 + j - 4 - 9; omega), a1, a2]
    congr 1
    show 29 + j - 4 - 9 - 16 = j
    omega
  refine ⟨rfl, rfl, rfl, rfl, fun p hp => ?_, fun p hp => ?_, key 0, key 1⟩
  · unfold JA.rcells
    rw [List.getElem?_append_right (by simp), show 4 + p - ([Value.int .i64 J.n, .int .i64 J.m, .int .i64 J.T.slot, vl] : List Value).length = p by simp, List.getElem?_append_left (by omega), List.getElem?_map, List.getD_eq_getElem?_getD, List.getElem?_eq_getElem (by omega)]; rfl
  · unfold JA.rcells
    rw [List.getElem?_append_right (by simp; omega), show 13 + p - ([Value.int .i64 J.n, .int .i64 J.m, .int .i64 J.T.slot, vl] : List Value).length = 9 + p by simp; omega, List.getElem?_append_right (by omega), a1, show 9 + p - 9 = p by omega, List.getElem?_append_left (by omega), List.getElem?_map, List.getD_eq_getElem?_getD, List.getElem?_eq_getElem (by omega)]; rfl
theorem JA.rset_told (p : Nat) (h9 : J.told.length = 9) (hp : p < 9) (n : Int) : (J.rcells vl vp).set (4 + p) (.int .i64 n) = ({ J with told := J.told.set p n } : JA).rcells vl vp := by
  unfold JA.rcells
  rw [List.set_append_right _ _ (by simp), show 4 + p - ([Value.int .i64 J.n, .int .i64 J.m, .int .i64 J.T.slot, vl] : List Value).length = p by simp, List.set_append_left _ _ (by rw [List.length_map]; omega), List.map_set]; rfl
theorem JA.rset_next (p : Nat) (h9 : J.told.length = 9) (h16 : J.next.length = 16) (hp : p < 16) (n : Int) : (J.rcells vl vp).set (13 + p) (.int .i64 n) = ({ J with next := J.next.set p n } : JA).rcells vl vp := by
  unfold JA.rcells
  rw [List.set_append_right _ _ (by simp; omega), show 13 + p - ([Value.int .i64 J.n, .int .i64 J.m, .int .i64 J.T.slot, vl] : List Value).length = 9 + p by simp; omega, List.set_append_right _ _ (by rw [List.length_map]; omega), List.length_map, h9, show 9 + p - 9 = p by omega, List.set_append_left _ _ (by rw [List.length_map]; omega), List.map_set]; rfl
theorem JA.rset_tail (h9 : J.told.length = 9) (h16 : J.next.length = 16) (j : Nat) (u : Value) : (J.rcells vl vp).set (29 + j) u = [.int .i64 J.n, .int .i64 J.m, .int .i64 J.T.slot, vl] ++ (J.told.map iV ++ (J.next.map iV ++ ([vp, .int .i64 J.broken] : List Value).set j u)) := by
  unfold JA.rcells
  rw [List.set_append_right _ _ (by show 4 ≤ 29 + j; omega), show 29 + j - ([Value.int .i64 J.n, .int .i64 J.m, .int .i64 J.T.slot, vl] : List Value).length = 25 + j by simp; omega, List.set_append_right _ _ (by rw [List.length_map]; omega), List.length_map, h9, List.set_append_right _ _ (by rw [List.length_map]; omega), List.length_map, h16]
  congr 4
  omega
theorem JA.rset_put (h9 : J.told.length = 9) (h16 : J.next.length = 16) (u : Value) (l : List En) : (J.rcells vl vp).set 29 u = ({ J with put := l } : JA).rcells vl u := J.rset_tail vl vp h9 h16 0 u
theorem JA.rset_broken (h9 : J.told.length = 9) (h16 : J.next.length = 16) (n : Int) : (J.rcells vl vp).set 30 (.int .i64 n) = ({ J with broken := n } : JA).rcells vl vp := J.rset_tail vl vp h9 h16 1 _
end
theorem infoRJ : (Tryd.prog.info? 49).map (·.size) = some 31 := by kernel_rfl
def zRJ : List Value := [.int .i64 0, .int .i64 0, .int .i64 0, .slice none 0 0] ++ ((List.replicate 9 (0 : Int)).map iV ++ ((List.replicate 16 (0 : Int)).map iV ++ [.slice none 0 0, .int .i64 0]))
theorem zeroRJ (w : World) : (zeroValue 49).run Tryd.prog w = .ok (.agg zRJ.toArray) w := by kernel_rfl
theorem zRJ_one : ∀ u ∈ zRJ, u.oneCell' = true := by
  intro u hu
  simp only [zRJ, List.mem_append, List.mem_cons, List.not_mem_nil, or_false, List.mem_map] at hu
  rcases hu with (rfl | rfl | rfl | rfl) | (⟨x, _, rfl⟩ | (⟨x, _, rfl⟩ | rfl | rfl)) <;> rfl
theorem zRJ_len : zRJ.length = 31 := rfl
instance wdZ : Wd 31 zRJ := ⟨zRJ_len, zRJ_one⟩
theorem rput_any {A : Nat → Prop} (w : World) (J : JA) (cs : List Value) (e : En) (h : RefAt w A J cs) (hl : J.put.length ≤ 1000000) :
    Calls Tryd.prog 24 #[.agg cs.toArray, e.v] w fun r w' => r = .returned (.bool (decide (e ∈ J.put))) ∧ Ext w w' := by
  obtain ⟨vl, vp, rfl, hvl, -, hvp, -, h9, h16⟩ := h
  obtain ⟨al, cl, rfl⟩ := hvl.len
  obtain ⟨ap, cp, rfl⟩ := hvp.len
  have HLEN := Lib.hid (J.rcells_len (.slice al J.T.l.length cl) (.slice ap J.put.length cp) h9 h16)
  have HONE := Lib.hid (J.rcells_one al ap J.T.l.length cl J.put.length cp)
  have HWD : Wd _ _ := ⟨HLEN.out, HONE.out⟩
  obtain ⟨-, -, -, -, -, -, c29, -⟩ := J.rat (.slice al J.T.l.length cl) (.slice ap J.put.length cp) h9 h16
  obtain ⟨cs, hcs⟩ : ∃ cs, J.rcells (.slice al J.T.l.length cl) (.slice ap J.put.length cp) = cs := ⟨_, rfl⟩
  rw [hcs] at c29 HLEN HONE HWD ⊢
  obtain ⟨q, hq⟩ : ∃ q, J.put = q := ⟨_, rfl⟩
  rw [hq] at c29 hvp hl ⊢
  have HV := Lib.hid hvp
  have HL := Lib.hid hl
  have HM := Lib.hid (Mem.start0 w)
  have HEV := Lib.hid (show e.v = .agg #[.int .i64 e.kind, .int .i64 e.member, .int .i64 e.number, .string (bs e.text)] from rfl)
  rw [HEV.out]
  clear hvl hvp hl h9 h16 hcs hq
  go_enter Tryd.func24, Tryd.ntmps24
  have fM := HM.out.fa
  go_wp2_with (first
    | ((with_reducible refine at_list ?_); first
      | ((with_reducible refine at_load 49 _ rfl ?_); refine ldW 49 _ rfl rfl rfl HM.out Tryd.underlying49 rfl infoRJ ?_)
      | ((first
        | ((with_reducible refine at_store 49 _ _ rfl ?_); refine stW 49 _ _ rfl rfl rfl rfl HM.out infoRJ ?_; intro w9 M)
        | ((with_reducible refine at_box 49 _ rfl ?_); refine boW 49 _ rfl rfl rfl HM.out ?_; intro w9 n9 M)
        | ((with_reducible refine at_alloc 49 rfl ?_); refine alW 49 rfl rfl (zeroRJ _) HM.out ?_; intro w9 n9 M)); replace HM := Lib.hid M; clear M; clear fM; have fM := HM.out.fa)))
  all_goals clear fM
  refine nxt HM fun w0 M => ?_
  clear HM; have HM := M; clear M
  go_loopw [5] (fun i wr => ∃ k : Nat, k ≤ q.length ∧ i = .int .i64 k ∧ Hid (∀ j (hj : j < q.length), j < k → q[j] ≠ e) ∧ Hid (Mem NoB w wr [cellsR n9 49 cs, cellsR w9.heap.size 35 [.int .i64 e.kind, .int .i64 e.member, .int .i64 e.number, .string (bs e.text)]])) (fun i _ => q.length - (intOf i).toNat)
  case atStart =>
    refine ⟨0, Nat.zero_le _, rfl, Lib.hid fun j _ h => absurd h (by omega), Lib.hid ?_⟩
    exact Mem.sub HM.out (by repeat first | exact Sub.nil | refine Sub.cons (by with_reducible repeat first | exact ph | apply pt) ?_)
  case round =>
    obtain ⟨k, hk, rfl, HP, HM⟩ := hrel
    by_cases hlt : k < q.length
    · obtain ⟨g, o, rfl, hg, hx⟩ := (HV.out.ext HM.out.extTo).at k hlt
      obtain ⟨x, hxe⟩ : ∃ x, q[k] = x := ⟨_, rfl⟩
      rw [hxe] at hx
      have d0 : wr.cell? ⟨g, o + k * 4, none⟩ = some (.int .i64 x.kind) := hx 0 (by decide)
      have d1 : wr.cell? ⟨g, o + k * 4 + 1, none⟩ = some (.int .i64 x.member) := hx 1 (by decide)
      have d2 : wr.cell? ⟨g, o + k * 4 + 2, none⟩ = some (.int .i64 x.number) := hx 2 (by decide)
      have d3 : wr.cell? ⟨g, o + k * 4 + 3, none⟩ = some (.string (bs x.text)) := hx 3 (by decide)
      have HXE := Lib.hid hxe
      have HK := Lib.hid hlt
      have g1 : (k : Int) < (q.length : Int) := by omega
      have g2 : ¬ (k : Int) < 0 := by omega
      have g3 : (k : Int) < 1000000 := by have := HL.out; omega
      have hq := fun W => eq_en x e W
      clear hx hxe
      by_cases hd : x = e
      · rw [decide_eq_true hd] at hq
        have HD := Lib.hid hd
        clear hd
        have fM := HM.out.fa
        go_wp2_with fail
        have hE0 : Keeps NoB wr wr.drew := (Keeps.refl _ _).drew
        refine wp_region_plan [(0, 0), (3, 1), (0, 2), (0, 3), (3, 4), (3, 5), (0, 6)] [] [] [] (ClsE wr) (by kernel_rfl) (by kernel_rfl) (by kernel_rfl) rfl rfl (ClsE.of hE0) (fun _ _ _ d _ h => by cases d <;> exact h) ?_; simp only [planL, nL]
        refine pR (v := ?_) rfl (fun W => ?_) ?_; rotate_left; (go_simp <;> with_reducible rfl); simp only [nP]
        refine pX (v := ?_) rfl ?_ ?_; rotate_left; (go_simp <;> with_reducible rfl); simp only [nP]
        refine pM _ rfl rfl ?_; simp only [nP, nE]
        refine pR (v := ?_) rfl (fun W => ?_) ?_; rotate_left; (go_simp <;> with_reducible rfl); simp only [nP]
        iterate 2 (refine pX (v := ?_) rfl ?_ ?_; rotate_left; (go_simp <;> with_reducible rfl); simp only [nP])
        refine pR (v := ?_) rfl (fun W => ?_) ?_; rotate_left; (go_simp <;> with_reducible rfl); simp only [nP]
        refine plan_nil ?_; simp only [tailL, List.filterMap_nil]
        go_wp2_with fail
        clear fM
        go_ret
        refine ⟨?_, ?_⟩
        · rw [decide_eq_true (show e ∈ q by rw [← HD.out, ← HXE.out]; exact List.getElem_mem _)]; rfl
        · apply Mem.extTo
          exact HM.out.to
      · rw [decide_eq_false hd] at hq
        have HD := Lib.hid hd
        clear hd
        have fM := HM.out.fa
        go_wp2_with fail
        have hE0 : Keeps NoB wr wr.drew := (Keeps.refl _ _).drew
        refine wp_region_plan [(0, 0), (3, 1), (0, 2), (0, 3), (3, 4), (3, 5), (0, 6)] [] [] [] (ClsE wr) (by kernel_rfl) (by kernel_rfl) (by kernel_rfl) rfl rfl (ClsE.of hE0) (fun _ _ _ d _ h => by cases d <;> exact h) ?_; simp only [planL, nL]
        refine pR (v := ?_) rfl (fun W => ?_) ?_; rotate_left; (go_simp <;> with_reducible rfl); simp only [nP]
        refine pX (v := ?_) rfl ?_ ?_; rotate_left; (go_simp <;> with_reducible rfl); simp only [nP]
        refine pM _ rfl rfl ?_; simp only [nP, nE]
        refine pR (v := ?_) rfl (fun W => ?_) ?_; rotate_left; (go_simp <;> with_reducible rfl); simp only [nP]
        iterate 2 (refine pX (v := ?_) rfl ?_ ?_; rotate_left; (go_simp <;> with_reducible rfl); simp only [nP])
        refine pR (v := ?_) rfl (fun W => ?_) ?_; rotate_left; (go_simp <;> with_reducible rfl); simp only [nP]
        refine plan_nil ?_; simp only [tailL, List.filterMap_nil]
        go_wp2_with fail
        clear fM
        go_roundw
        case rel =>
          refine ⟨k + 1, by omega, by go_num, Lib.hid fun j hj h => ?_, Lib.hid ?_⟩
          · by_cases e : j = k
            · subst e; rw [HXE.out]; exact HD.out
            · exact HP.out j hj (by omega)
          · apply Mem.mem
            · skip
              exact HM.out.to
            intro w8 M
            exact Mem.sub M (by repeat first | exact Sub.nil | refine Sub.cons (by with_reducible repeat first | exact ph | apply pt) ?_)
        case measure => simp [intOf]; omega
    · obtain rfl : k = q.length := by omega
      have HQ : Hid (decide (e ∈ q) = false) := Lib.hid (decide_eq_false fun hm => by
        obtain ⟨j, hj, hje⟩ := List.getElem_of_mem hm
        exact HP.out j hj hj hje)
      clear hlt hk
      have fM := HM.out.fa
      go_wp2_with fail
      all_goals clear fM
      go_ret
      exact ⟨by rw [HQ.out]; rfl, HM.out.extTo⟩
end Go.Proofs.YthhdgjofagdjeaaDoor
end
