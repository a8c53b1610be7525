/- Texts UC, VA, VB, VC, one behind the other. Conditions: as each says. -/
import Derived.Test.YthhdgjofagdjeaaDoorPkJ
section
/- The document's check of a text tells what 'chk' tells. Condition: the text has at most 500000 bytes. -/
set_option linter.unusedVariables false
set_option linter.unusedSimpArgs false
set_option maxHeartbeats 2000000
set_option maxRecDepth 10000
namespace Go.Proofs.YthhdgjofagdjeaaDoor
open Go.RowKit Go.Shelf

theorem chk_3 {l : List UInt8} (h : 200 < l.length) : chk l = 3 := by unfold chk; rw [if_pos h]
theorem chk_130 {l : List UInt8} (h : ¬ 200 < l.length) (k : Nat) (hk : k < (signsL l).length) (hb : (signsL l)[k].broken = true) : chk l = 130 := by
  unfold chk
  rw [if_neg h, if_pos (List.any_eq_true.2 ⟨_, List.getElem_mem hk, hb⟩)]
theorem any_none {α : Type} (l : List α) (p : α → Bool) (h : ∀ j (hj : j < l.length), p l[j] = false) : l.any p = false := by
  rw [List.any_eq_false]
  intro x hx
  obtain ⟨j, hj, rfl⟩ := List.getElem_of_mem hx
  rw [h j hj]; exact Bool.noConfusion
theorem chk_131 {l : List UInt8} (h : ¬ 200 < l.length) (h1 : ∀ j (hj : j < (signsL l).length), (signsL l)[j].broken = false) (k : Nat) (hk : k < (signsL l).length) (hb : (signsL l)[k].bad = true) : chk l = 131 := by
  unfold chk
  rw [if_neg h, any_none (signsL l) (fun x : Sg => x.broken) h1, if_neg Bool.noConfusion, if_pos (List.any_eq_true.2 ⟨_, List.getElem_mem hk, hb⟩)]
theorem chk_rest {l : List UInt8} (h : ¬ 200 < l.length) (h1 : ∀ j (hj : j < (signsL l).length), (signsL l)[j].broken = false) (h2 : ∀ j (hj : j < (signsL l).length), (signsL l)[j].bad = false) : chk l = if blankB l = true then 132 else 0 := by
  unfold chk
  rw [if_neg h, any_none (signsL l) (fun x : Sg => x.broken) h1, if_neg Bool.noConfusion, any_none (signsL l) (fun x : Sg => x.bad) h2, if_neg Bool.noConfusion]
theorem signsF_len (l : List UInt8) : ∀ f p, (signsF l f p).length ≤ f
  | 0, p => by simp [signsF]
  | f + 1, p => by
    rw [signsF]
    split
    · split
      · have := signsF_len l f (p + 1); simp; omega
      · have := signsF_len l f (p + (sgn (l.drop p)).2); simp; omega
    · simp
theorem sg_at {A : Nat → Prop} {w : World} {a : Option Addr} {c : Nat} {q : List Sg} (h : (rowR sgE (.slice a q.length c) q).p A w) (k : Nat) (hk : k < q.length) :
    ∃ g o, a = some ⟨g, o, none⟩ ∧ q.length ≤ c ∧ w.cell? ⟨g, o + k * 4 + 2, none⟩ = some (.int .i64 (q[k].n : Int)) ∧ w.cell? ⟨g, o + k * 4 + 3, none⟩ = some (.bool q[k].broken) := by
  obtain ⟨g, o, cap, hv, h1, h2, h3⟩ := row_cells h (by omega)
  cases hv
  exact ⟨g, o, rfl, h1, h3 k hk 2 (by decide), h3 k hk 3 (by decide)⟩
theorem check03_any (w : World) (l : List UInt8) (hl : l.length ≤ 500000) :
    Calls Tryd.prog 59 #[.string (bs l)] w fun r w' => r = .returned (.int .i64 (chk l : Int)) ∧ Ext w w' := by
  have hsz := bs_size l
  by_cases h0 : 200 < l.length
  · have g0 : (200 : Int) < (l.length : Int) := by omega
    have HQ := Lib.hid (chk_3 h0)
    clear h0 hl
    go_enter Tryd.func59, Tryd.ntmps59
    go_wp2_with fail
    go_ret
    exact ⟨by rw [HQ.out]; rfl, Keeps.refl _ _⟩
  have g0 : ¬ (200 : Int) < (l.length : Int) := by omega
  have H0 := Lib.hid h0
  have HL := Lib.hid hl
  clear h0 hl
  go_enter Tryd.func59, Tryd.ntmps59
  go_wp2_with fail
  refine (signs_any w l HL.out).mono ?_
  rintro r w1 ⟨v, rfl, A, hA, hE, -⟩
  have HE := Lib.hid (show Ext w w1 from hE)
  obtain ⟨q, hq⟩ : ∃ q, signsL l = q := ⟨_, rfl⟩
  rw [hq] at hA
  have hql : q.length ≤ 500000 := by have := signsF_len l l.length 0; have := HL.out; rw [← hq]; unfold signsL; omega
  obtain ⟨a, c, rfl⟩ := row_len hA
  have HA := Lib.hid hA
  have HQQ := Lib.hid hq
  clear hA hE hq
  go_wp2_with fail
  go_loop [4] (fun i => ∃ k : Nat, k ≤ q.length ∧ i = .int .i64 k ∧ Hid (∀ j (hj : j < q.length), j < k → q[j].broken = false)) (fun i => q.length - (intOf i).toNat)
  case atStart => exact ⟨0, Nat.zero_le _, rfl, Lib.hid fun j _ h => absurd h (by omega)⟩
  case round =>
    obtain ⟨k, hk, rfl, HB⟩ := hrel
    by_cases hlt : k < q.length
    · obtain ⟨g, o, rfl, hc, -, d3⟩ := sg_at HA.out k hlt
      have g1 : (k : Int) < (q.length : Int) := by omega
      have g2 : ¬ (k : Int) < 0 := by omega
      clear hc
      cases hb : q[k].broken
      · rw [hb] at d3
        have HBK := Lib.hid hb
        clear hb
        go_wp2_with fail
        go_round
        case rel => exact ⟨k + 1, by omega, by go_num, Lib.hid fun j hj h => by
          by_cases e : j = k
          · subst e; exact HBK.out
          · exact HB.out j hj (by omega)⟩
        case measure => simp [intOf]; omega
      · rw [hb] at d3
        have HQ : Hid (chk l = 130) := Lib.hid (by
          have e := HQQ.out
          subst e
          exact chk_130 H0.out k hlt hb)
        clear hb
        go_wp2_with fail
        go_ret
        exact ⟨by rw [HQ.out]; rfl, HE.out⟩
    · obtain rfl : k = q.length := by omega
      have HB1 : Hid (∀ j (hj : j < q.length), q[j].broken = false) := Lib.hid fun j hj => HB.out j hj hj
      clear hlt hk HB
      go_wp2_with fail
      go_loop [5] (fun i => ∃ k : Nat, k ≤ q.length ∧ i = .int .i64 k ∧ Hid (∀ j (hj : j < q.length), j < k → q[j].bad = false)) (fun i => q.length - (intOf i).toNat)
      case atStart => exact ⟨0, Nat.zero_le _, rfl, Lib.hid fun j _ h => absurd h (by omega)⟩
      case round =>
        obtain ⟨k, hk, rfl, HB⟩ := hrel
        by_cases hlt : k < q.length
        · obtain ⟨g, o, rfl, hc, d2, -⟩ := sg_at HA.out k hlt
          have g1 : (k : Int) < (q.length : Int) := by omega
          have g2 : ¬ (k : Int) < 0 := by omega
          clear hc
          obtain ⟨n, hn⟩ : ∃ n, q[k].n = n := ⟨_, rfl⟩
          rw [hn] at d2
          have HBK : Hid (q[k].bad = (decide (n < 32) || (decide (127 ≤ n) && decide (n ≤ 159)))) := Lib.hid (by unfold Sg.bad; rw [hn])
          clear hn
          by_cases hb : n < 32 ∨ (127 ≤ n ∧ n ≤ 159)
          · have HQ : Hid (chk l = 131) := Lib.hid (by
              have e := HQQ.out
              subst e
              exact chk_131 H0.out HB1.out k hlt (by rw [HBK.out]; simpa using hb))
            rcases hb with hb | ⟨hb1, hb2⟩
            · have i1 : (n : Int) < 32 := by omega
              clear hb
              go_wp2_with fail
              go_ret
              exact ⟨by rw [HQ.out]; rfl, HE.out⟩
            · have i1 : ¬ (n : Int) < 32 := by omega
              have i2 : (127 : Int) ≤ (n : Int) := by omega
              have i3 : (n : Int) ≤ 159 := by omega
              clear hb1 hb2
              go_wp2_with fail
              go_ret
              exact ⟨by rw [HQ.out]; rfl, HE.out⟩
          · have HBN : Hid (q[k].bad = false) := Lib.hid (by rw [HBK.out]; simp; omega)
            have i1 : ¬ (n : Int) < 32 := by omega
            by_cases hb1 : n < 127
            · have i2 : ¬ (127 : Int) ≤ (n : Int) := by omega
              clear hb hb1
              go_wp2_with fail
              go_round
              case rel => exact ⟨k + 1, by omega, by go_num, Lib.hid fun j hj h => by
                by_cases e : j = k
                · subst e; exact HBN.out
                · exact HB.out j hj (by omega)⟩
              case measure => simp [intOf]; omega
            · have i2 : (127 : Int) ≤ (n : Int) := by omega
              have i3 : ¬ (n : Int) ≤ 159 := by omega
              clear hb hb1
              go_wp2_with fail
              go_round
              case rel => exact ⟨k + 1, by omega, by go_num, Lib.hid fun j hj h => by
                by_cases e : j = k
                · subst e; exact HBN.out
                · exact HB.out j hj (by omega)⟩
              case measure => simp [intOf]; omega
        · obtain rfl : k = q.length := by omega
          have HC : Hid (chk l = if blankB l = true then 132 else 0) := Lib.hid (by
            have e := HQQ.out
            subst e
            exact chk_rest H0.out HB1.out fun j hj => HB.out j hj hj)
          clear hlt hk HB HB1
          by_cases hn : l.length = 0
          · obtain rfl : l = [] := List.eq_nil_of_length_eq_zero hn
            have HQ : Hid (chk [] = 132) := Lib.hid (by rw [HC.out]; rfl)
            have g3 : (((([] : List UInt8).length : Nat) : Int) == 0) = true := rfl
            clear hn
            go_wp2_with fail
            go_ret
            exact ⟨by rw [HQ.out]; rfl, HE.out⟩
          · have g3 : ((l.length : Int) == 0) = false := beq_eq_false_iff_ne.2 (by omega)
            have hi0 : ∀ W, (Instr.index 9 (.string (bs l)) (.int .i64 0)).run Tryd.prog W = .ok (.int .u8 ((l.getD 0 0).toNat : Int)) W := fun W => index_bs l 0 (by omega) W
            have hi1 := index_bs l (l.length - 1) (Nat.sub_lt (Nat.pos_of_ne_zero hn) Nat.one_pos)
            have hs1 : wrap64 ((l.length : Int) - 1) = ((l.length - 1 : Nat) : Int) := w64 (x := (l.length : Int) - 1) (y := ((l.length - 1 : Nat) : Int)) (by omega) (by omega) (by have := HL.out; omega)
            have hs2 : ((l.length : Int) - 1) = ((l.length - 1 : Nat) : Int) := by omega
            obtain ⟨x, hx⟩ : ∃ x, l.getD 0 0 = x := ⟨_, rfl⟩
            obtain ⟨y, hy⟩ : ∃ y, l.getD (l.length - 1) 0 = y := ⟨_, rfl⟩
            rw [hx] at hi0
            rw [hy] at hi1
            obtain ⟨m, hm⟩ : ∃ m, l.length - 1 = m := ⟨_, rfl⟩
            rw [hm] at hi1 hs1 hs2
            have HBL : Hid (blankB l = ((x == 32) || (y == 32))) := Lib.hid (by
              unfold blankB
              have e1 : l.isEmpty = false := by cases l; simp at hn; rfl
              have e2 : l.head? = some x := by rw [← hx, List.getD_eq_getElem?_getD, List.head?_eq_getElem?, List.getElem?_eq_getElem (by omega)]; rfl
              have e3 : l.getLast? = some y := by rw [← hy, List.getD_eq_getElem?_getD, List.getLast?_eq_getElem?, List.getElem?_eq_getElem (by omega)]; rfl
              rw [e1, e2, e3]
              rfl)
            have kx : ∀ z : UInt8, (((z.toNat : Int)) == 32) = (z == 32) := fun z => by
              rw [Bool.eq_iff_iff]
              simp only [beq_iff_eq]
              constructor
              · intro h; exact UInt8.toNat_inj.1 (by show z.toNat = 32; omega)
              · intro h; subst h; rfl
            have kx1 := kx x
            have ky1 := kx y
            have HN := Lib.hid hn
            clear hn hx hy hm kx
            cases hxe : x == 32
            · rw [hxe] at kx1 HBL
              cases hye : y == 32
              · rw [hye] at ky1 HBL
                have HQ : Hid (chk l = 0) := Lib.hid (by rw [HC.out, HBL.out]; rfl)
                clear hxe hye
                go_wp2_with fail
                go_ret
                exact ⟨by rw [HQ.out]; rfl, HE.out⟩
              · rw [hye] at ky1 HBL
                have HQ : Hid (chk l = 132) := Lib.hid (by rw [HC.out, HBL.out]; rfl)
                clear hxe hye
                go_wp2_with fail
                go_ret
                exact ⟨by rw [HQ.out]; rfl, HE.out⟩
            · rw [hxe] at kx1 HBL
              have HQ : Hid (chk l = 132) := Lib.hid (by rw [HC.out, HBL.out]; rfl)
              clear hxe
              go_wp2_with fail
              go_ret
              exact ⟨by rw [HQ.out]; rfl, HE.out⟩
end Go.Proofs.YthhdgjofagdjeaaDoor
end
section
/- The document's question whether an entry may be: what 'enB' tells. Condition: its text has at most 500000 bytes. -/
set_option linter.unusedVariables false
set_option linter.unusedSimpArgs false
set_option maxHeartbeats 2000000
set_option maxRecDepth 10000
namespace Go.Proofs.YthhdgjofagdjeaaDoor
open Go.RowKit Go.Shelf

theorem entry14_any (w : World) (e : En) (hl : e.text.length ≤ 500000) :
    Calls Tryd.prog 40 #[e.v] w fun r w' => r = .returned (.bool (enB e)) ∧ Ext w w' := by
  obtain ⟨kind, member, number, text⟩ := e
  dsimp only at hl
  have HL := Lib.hid hl
  clear hl
  unfold En.v
  dsimp only
  by_cases m0 : 0 ≤ member
  · by_cases m1 : member < 16
    · have HX : Hid (true = memB member) := Lib.hid (by unfold memB; rw [decide_eq_true m0, decide_eq_true m1]; rfl)
      by_cases k1 : kind = 1
      · subst k1
        rcases none_cases ⟨1, member, number, text⟩ with ⟨h1, h2, h3, h4⟩ | ⟨h1, h2, h3, h4⟩ | ⟨h1, h2, h4⟩ | ⟨h1, h4⟩
        all_goals
          have HQ : Hid (enB ⟨1, member, number, text⟩ = _) := Lib.hid (show enB ⟨1, member, number, text⟩ = noneB ⟨1, member, number, text⟩ from rfl)
          have H4 := Lib.hid h4
          clear h4
          dsimp only at h1
          try dsimp only at h2
          try dsimp only at h3
          clear HX
          try subst h1
          try subst h2
          first
          | (exfalso; omega)
          | (go_enter Tryd.func40, Tryd.ntmps40
             go_wp2_with fail
             go_ret
             exact ⟨by rw [HQ.out, H4.out]; rfl, (Keeps.refl _ _).alloc _⟩)
      have e1 : (kind == 1) = false := by simpa using k1
      by_cases k23 : kind = 2 ∨ kind = 3
      · have HK : Hid (enB ⟨kind, member, number, text⟩ = (memB member && aloneB ⟨kind, member, number, text⟩)) := Lib.hid (by unfold enB; rw [if_neg k1, if_pos k23])
        rcases alone_cases ⟨kind, member, number, text⟩ with ⟨h1, h2, h3⟩ | ⟨h1, h2, h3⟩ | ⟨h1, h3⟩
        all_goals
          have H3 := Lib.hid h3
          clear h3
          dsimp only at h1
          try dsimp only at h2
          try subst h1
          rcases k23 with k2 | k3
          · subst k2
            go_enter Tryd.func40, Tryd.ntmps40
            go_wp2_with fail
            go_ret
            exact ⟨by rw [HK.out, H3.out, ← HX.out]; rfl, (Keeps.refl _ _).alloc _⟩
          · subst k3
            go_enter Tryd.func40, Tryd.ntmps40
            go_wp2_with fail
            go_ret
            exact ⟨by rw [HK.out, H3.out, ← HX.out]; rfl, (Keeps.refl _ _).alloc _⟩
      have k2 : ¬ kind = 2 := fun h => k23 (.inl h)
      have k3 : ¬ kind = 3 := fun h => k23 (.inr h)
      have e2 : (kind == 2) = false := by simpa using k2
      have e3 : (kind == 3) = false := by simpa using k3
      by_cases k4 : kind = 4
      case neg =>
        have e4 : (kind == 4) = false := by simpa using k4
        have HK : Hid (enB ⟨kind, member, number, text⟩ = false) := Lib.hid (by unfold enB; rw [if_neg k1, if_neg k23, if_neg k4])
        clear k1 k2 k3 k4 k23 HX
        go_enter Tryd.func40, Tryd.ntmps40
        go_wp2_with fail
        go_ret
        exact ⟨by rw [HK.out]; rfl, (Keeps.refl _ _).alloc _⟩
      have hse : enB ⟨kind, member, number, text⟩ = (decide (1 ≤ number) && decide (number ≤ 2147483647) && (chk text == 0)) := by
        unfold enB; rw [if_neg k1, if_neg k23, if_pos k4]; unfold sayB; rw [← HX.out]; simp
      have HK := Lib.hid hse
      clear hse k1 k2 k3 k23 HX
      subst k4
      by_cases n1 : 1 ≤ number
      case neg =>
        have N := Lib.hid n1
        go_enter Tryd.func40, Tryd.ntmps40
        go_wp2_with fail
        go_ret
        exact ⟨by rw [HK.out, decide_eq_false (p := 1 ≤ number) (by have := N.out; omega)]; rfl, (Keeps.refl _ _).alloc _⟩
      by_cases n2 : number ≤ 2147483647
      case neg =>
        have N := Lib.hid n2
        go_enter Tryd.func40, Tryd.ntmps40
        go_wp2_with fail
        go_ret
        exact ⟨by rw [HK.out, decide_eq_false (p := number ≤ 2147483647) (by have := N.out; omega)]; simp, (Keeps.refl _ _).alloc _⟩
      have HN := Lib.hid (And.intro n1 n2)
      have HM := Lib.hid (Mem.start0 w)
      go_enter Tryd.func40, Tryd.ntmps40
      have fM := HM.out.facts
      simp only [seeS] at fM
      go_wp2_with fail
      all_goals clear fM
      first | apply Mem.call | apply Mem.postD | apply Mem.stop | apply Mem.toUpd | apply Mem.list | apply Mem.code | apply Mem.post | apply Mem.postM
      · with_reducible repeat first | exact HM.out | exact ph | apply pt | apply Mem.drew | apply Mem.alloc | apply Mem.set | apply Mem.allocO | (simp only [World.size_alloc, World.size_setCell, World.size_drew]; rfl) | rfl
      intro w0 M
      try simp only [List.set_cons_zero, List.set_cons_succ] at M
      replace HM := Lib.hid M
      clear M
      refine (check03_any w0 text HL.out).mono ?_
      rintro r w1 ⟨rfl, hE⟩
      replace HM := Lib.hid (HM.out.ext hE)
      clear hE
      have fM := HM.out.facts
      simp only [seeS] at fM
      go_wp2_with fail
      all_goals clear fM
      go_ret
      refine ⟨?_, HM.out.extTo⟩
      rw [HK.out, decide_eq_true HN.out.1, decide_eq_true HN.out.2]
      have : ((chk text : Int) == 0) = (chk text == 0) := by
        rw [Bool.eq_iff_iff]; simp
      simp [this]
    · have HX : Hid (false = memB member) := Lib.hid (by unfold memB; rw [decide_eq_false m1]; simp)
      by_cases k1 : kind = 1
      · subst k1
        rcases none_cases ⟨1, member, number, text⟩ with ⟨h1, h2, h3, h4⟩ | ⟨h1, h2, h3, h4⟩ | ⟨h1, h2, h4⟩ | ⟨h1, h4⟩
        all_goals
          have HQ : Hid (enB ⟨1, member, number, text⟩ = _) := Lib.hid (show enB ⟨1, member, number, text⟩ = noneB ⟨1, member, number, text⟩ from rfl)
          have H4 := Lib.hid h4
          clear h4
          dsimp only at h1
          try dsimp only at h2
          try dsimp only at h3
          clear HX
          try subst h1
          try subst h2
          first
          | (exfalso; omega)
          | (go_enter Tryd.func40, Tryd.ntmps40
             go_wp2_with fail
             go_ret
             exact ⟨by rw [HQ.out, H4.out]; rfl, (Keeps.refl _ _).alloc _⟩)
      have e1 : (kind == 1) = false := by simpa using k1
      by_cases k23 : kind = 2 ∨ kind = 3
      · have HK : Hid (enB ⟨kind, member, number, text⟩ = (memB member && aloneB ⟨kind, member, number, text⟩)) := Lib.hid (by unfold enB; rw [if_neg k1, if_pos k23])
        rcases alone_cases ⟨kind, member, number, text⟩ with ⟨h1, h2, h3⟩ | ⟨h1, h2, h3⟩ | ⟨h1, h3⟩
        all_goals
          have H3 := Lib.hid h3
          clear h3
          dsimp only at h1
          try dsimp only at h2
          try subst h1
          rcases k23 with k2 | k3
          · subst k2
            go_enter Tryd.func40, Tryd.ntmps40
            go_wp2_with fail
            go_ret
            exact ⟨by rw [HK.out, H3.out, ← HX.out]; rfl, (Keeps.refl _ _).alloc _⟩
          · subst k3
            go_enter Tryd.func40, Tryd.ntmps40
            go_wp2_with fail
            go_ret
            exact ⟨by rw [HK.out, H3.out, ← HX.out]; rfl, (Keeps.refl _ _).alloc _⟩
      have k2 : ¬ kind = 2 := fun h => k23 (.inl h)
      have k3 : ¬ kind = 3 := fun h => k23 (.inr h)
      have e2 : (kind == 2) = false := by simpa using k2
      have e3 : (kind == 3) = false := by simpa using k3
      by_cases k4 : kind = 4
      case neg =>
        have e4 : (kind == 4) = false := by simpa using k4
        have HK : Hid (enB ⟨kind, member, number, text⟩ = false) := Lib.hid (by unfold enB; rw [if_neg k1, if_neg k23, if_neg k4])
        clear k1 k2 k3 k4 k23 HX
        go_enter Tryd.func40, Tryd.ntmps40
        go_wp2_with fail
        go_ret
        exact ⟨by rw [HK.out]; rfl, (Keeps.refl _ _).alloc _⟩
      have HK : Hid (enB ⟨kind, member, number, text⟩ = false) := Lib.hid (by unfold enB; rw [if_neg k1, if_neg k23, if_pos k4]; unfold sayB; rw [← HX.out]; simp)
      clear k1 k2 k3 k23 HX
      subst k4
      go_enter Tryd.func40, Tryd.ntmps40
      go_wp2_with fail
      go_ret
      exact ⟨by rw [HK.out]; rfl, (Keeps.refl _ _).alloc _⟩
  · have HX : Hid (false = memB member) := Lib.hid (by unfold memB; rw [decide_eq_false m0]; simp)
    by_cases k1 : kind = 1
    · subst k1
      rcases none_cases ⟨1, member, number, text⟩ with ⟨h1, h2, h3, h4⟩ | ⟨h1, h2, h3, h4⟩ | ⟨h1, h2, h4⟩ | ⟨h1, h4⟩
      all_goals
        have HQ : Hid (enB ⟨1, member, number, text⟩ = _) := Lib.hid (show enB ⟨1, member, number, text⟩ = noneB ⟨1, member, number, text⟩ from rfl)
        have H4 := Lib.hid h4
        clear h4
        dsimp only at h1
        try dsimp only at h2
        try dsimp only at h3
        clear HX
        try subst h1
        try subst h2
        first
        | (exfalso; omega)
        | (go_enter Tryd.func40, Tryd.ntmps40
           go_wp2_with fail
           go_ret
           exact ⟨by rw [HQ.out, H4.out]; rfl, (Keeps.refl _ _).alloc _⟩)
    have e1 : (kind == 1) = false := by simpa using k1
    by_cases k23 : kind = 2 ∨ kind = 3
    · have HK : Hid (enB ⟨kind, member, number, text⟩ = (memB member && aloneB ⟨kind, member, number, text⟩)) := Lib.hid (by unfold enB; rw [if_neg k1, if_pos k23])
      rcases alone_cases ⟨kind, member, number, text⟩ with ⟨h1, h2, h3⟩ | ⟨h1, h2, h3⟩ | ⟨h1, h3⟩
      all_goals
        have H3 := Lib.hid h3
        clear h3
        dsimp only at h1
        try dsimp only at h2
        try subst h1
        rcases k23 with k2 | k3
        · subst k2
          go_enter Tryd.func40, Tryd.ntmps40
          go_wp2_with fail
          go_ret
          exact ⟨by rw [HK.out, H3.out, ← HX.out]; rfl, (Keeps.refl _ _).alloc _⟩
        · subst k3
          go_enter Tryd.func40, Tryd.ntmps40
          go_wp2_with fail
          go_ret
          exact ⟨by rw [HK.out, H3.out, ← HX.out]; rfl, (Keeps.refl _ _).alloc _⟩
    have k2 : ¬ kind = 2 := fun h => k23 (.inl h)
    have k3 : ¬ kind = 3 := fun h => k23 (.inr h)
    have e2 : (kind == 2) = false := by simpa using k2
    have e3 : (kind == 3) = false := by simpa using k3
    by_cases k4 : kind = 4
    case neg =>
      have e4 : (kind == 4) = false := by simpa using k4
      have HK : Hid (enB ⟨kind, member, number, text⟩ = false) := Lib.hid (by unfold enB; rw [if_neg k1, if_neg k23, if_neg k4])
      clear k1 k2 k3 k4 k23 HX
      go_enter Tryd.func40, Tryd.ntmps40
      go_wp2_with fail
      go_ret
      exact ⟨by rw [HK.out]; rfl, (Keeps.refl _ _).alloc _⟩
    have HK : Hid (enB ⟨kind, member, number, text⟩ = false) := Lib.hid (by unfold enB; rw [if_neg k1, if_neg k23, if_pos k4]; unfold sayB; rw [← HX.out]; simp)
    clear k1 k2 k3 k23 HX
    subst k4
    go_enter Tryd.func40, Tryd.ntmps40
    go_wp2_with fail
    go_ret
    exact ⟨by rw [HK.out]; rfl, (Keeps.refl _ _).alloc _⟩
end Go.Proofs.YthhdgjofagdjeaaDoor
end
section
/- The document's talk: how a member stands, whether an entry would count, an entry applied. Condition: its lines lie as 'Win' says. -/
set_option linter.unusedVariables false
set_option linter.unusedSimpArgs false
set_option maxHeartbeats 2000000
set_option maxRecDepth 10000
namespace Go.Proofs.YthhdgjofagdjeaaDoor
open Go.RowKit Go.Shelf

/-- what a line does to a standing -/
def ofStep (m : Int) (s : St) (k : Nat) (x : Ln) : St :=
  if x.e.member = m then (if x.e.kind = 2 then ⟨true, (k : Int), s.last⟩ else if x.e.kind = 3 then ⟨false, s.joined, s.last⟩ else if x.e.kind = 4 then ⟨s.inn, s.joined, x.e.number⟩ else s) else s
/-- how a member stands behind the first k lines -/
def ofK (l : List Ln) (m : Int) : Nat → St
  | 0 => ⟨false, 0, 0⟩
  | k + 1 => match l[k]? with
    | some x => ofStep m (ofK l m k) k x
    | none => ofK l m k
theorem ofK_succ (l : List Ln) (m : Int) (k : Nat) (h : k < l.length) : ofK l m (k + 1) = ofStep m (ofK l m k) k l[k] := by
  rw [ofK, List.getElem?_eq_getElem h]
theorem ofK_append (l r : List Ln) (m : Int) : ∀ k, k ≤ l.length → ofK (l ++ r) m k = ofK l m k
  | 0, _ => rfl
  | k + 1, h => by
    rw [ofK_succ _ _ _ (by rw [List.length_append]; omega), ofK_succ _ _ _ (by omega), ofK_append l r m k (by omega), List.getElem_append_left (by omega)]
def TA.Ok (T : TA) : Prop := T.st.length = 16 ∧ ∀ m : Nat, m < 16 → T.of m = ofK T.l m T.l.length
theorem T0_ok : T0.Ok := ⟨rfl, fun m hm => by
  show (List.replicate 16 (⟨false, 0, 0⟩ : St)).getD m ⟨false, 0, 0⟩ = ⟨false, 0, 0⟩
  rw [List.getD_eq_getElem?_getD, List.getElem?_replicate]
  split <;> rfl⟩
theorem TA.Ok.put {T : TA} (h : T.Ok) (e : En) (he : enB e = true) (hc : (countsR T e).2 = true) : (T.put e).Ok := by
  obtain ⟨hl, ho⟩ := h
  obtain ⟨p, hp, h16⟩ := enB_mem he
  refine ⟨by show (T.st.set _ _).length = 16; rw [List.length_set, hl], fun m hm => ?_⟩
  have h1 : (T.put e).l = T.l ++ [⟨(T.l.length : Int), T.slot, e⟩] := rfl
  rw [h1, List.length_append, List.length_singleton, ofK_succ _ _ _ (by rw [List.length_append]; simp), ofK_append _ _ _ _ (Nat.le_refl _), List.getElem_append_right (Nat.le_refl _)]
  simp only [Nat.sub_self, List.getElem_cons_zero]
  rw [← ho m hm]
  unfold ofStep
  dsimp only
  rw [hp]
  show (T.st.set e.member.toNat (countsR T e).1).getD m ⟨false, 0, 0⟩ = _
  rw [hp, Int.toNat_natCast, List.getD_eq_getElem?_getD, List.getElem?_set]
  by_cases hpm : p = m
  · subst hpm
    rw [if_pos rfl, if_pos rfl, if_pos (by omega)]
    have hk : e.kind = 2 ∨ e.kind = 3 ∨ e.kind = 4 := by
      unfold countsR at hc
      by_cases k2 : e.kind = 2
      · exact .inl k2
      rw [if_neg k2] at hc
      by_cases k3 : e.kind = 3
      · exact .inr (.inl k3)
      rw [if_neg k3] at hc
      by_cases k4 : e.kind = 4
      · exact .inr (.inr k4)
      rw [if_neg k4] at hc
      cases hc
    unfold countsR
    rw [hp, Int.toNat_natCast]
    rcases hk with k | k | k
    · rw [if_pos k, if_pos k]; rfl
    · rw [if_neg (by omega), if_pos k, if_neg (by omega), if_pos k]; rfl
    · rw [if_neg (by omega), if_neg (by omega), if_pos k, if_neg (by omega), if_neg (by omega), if_pos k]; rfl
  · rw [if_neg hpm, if_neg (by omega)]
    unfold TA.of
    rw [List.getD_eq_getElem?_getD]
theorem ln_e {w : World} {a : Option Addr} {c : Nat} {l : List Ln} (h : Win w 0 6 (.slice a l.length c) l.length (lnsC l)) (k : Nat) (hk : k < l.length) :
    ∃ g o, a = some ⟨g, o, none⟩ ∧ g < w.heap.size ∧ w.cell? ⟨g, o + k * 6 + 2, none⟩ = some (.int .i64 l[k].e.kind) ∧ w.cell? ⟨g, o + k * 6 + 2 + 1, none⟩ = some (.int .i64 l[k].e.member) ∧ w.cell? ⟨g, o + k * 6 + 2 + 2, none⟩ = some (.int .i64 l[k].e.number) ∧ w.cell? ⟨g, o + k * 6 + 2 + 3, none⟩ = some (.string (bs l[k].e.text)) := by
  obtain ⟨g, o, cap, hv, h1, hg, h3⟩ := ln_at h k hk
  cases hv
  exact ⟨g, o, rfl, hg, h3 2 (by decide), h3 3 (by decide), h3 4 (by decide), h3 5 (by decide)⟩
set_option maxRecDepth 100000 in
theorem of_any (w : World) (v : Value) (slot m : Int) (l : List Ln) (hv : Win w 0 6 v l.length (lnsC l)) (hl : l.length ≤ 4096) :
    Calls Tryd.prog 60 #[.agg #[.int .i64 slot, v], .int .i64 m] w fun r w' => r = .returned (ofK l m l.length).v ∧ Ext w w' := by
  obtain ⟨a, c, rfl⟩ := hv.len
  have HV := Lib.hid hv
  have HL := Lib.hid hl
  have HM := Lib.hid (Mem.start0 w)
  clear hv hl
  go_enter Tryd.func60, Tryd.ntmps60
  have fM := HM.out.facts
  simp only [seeS, talkR_tag, rowR_tag] at fM
  go_wp2_with fail
  all_goals clear fM
  first | apply Mem.call | apply Mem.postD | apply Mem.stop | apply Mem.toUpd | apply Mem.list | apply Mem.code | apply Mem.post | apply Mem.postM
  · with_reducible repeat first | exact HM.out | exact ph | apply pt | apply Mem.drew | apply Mem.alloc | apply Mem.set | apply Mem.allocO | (simp only [World.size_alloc, World.size_setCell, World.size_drew]; rfl) | rfl
  intro w0 M
  try simp only [List.set_cons_zero, List.set_cons_succ] at M
  replace HM := Lib.hid M
  clear M
  go_loopw [6] (fun i wr => ∃ k : Nat, k ≤ l.length ∧ i = .int .i64 k ∧ Hid (Mem NoB w wr [cellsR (w.heap.size + 1 + 1) 90 (ofK l m k).cells, cellsR w.heap.size 44 [.int .i64 slot, .slice a l.length c], cellsR (w.heap.size + 1) 90 [.bool false, .int .i64 0, .int .i64 0]])) (fun i _ => l.length - (intOf i).toNat)
  case atStart =>
    refine ⟨0, Nat.zero_le _, rfl, Lib.hid ?_⟩
    rw [show (ofK l m 0).cells = [.bool false, .int .i64 0, .int .i64 0] from rfl]
    exact Mem.sub HM.out (by repeat first | exact Sub.nil | refine Sub.cons (by with_reducible repeat first | exact ph | apply pt) ?_)
  case round =>
    obtain ⟨k, hk, rfl, HM⟩ := hrel
    by_cases hlt : k < l.length
    · have hst := ofK_succ l m k hlt
      obtain ⟨g, o, rfl, hg, d0, d1, d2, d3⟩ := ln_e (HV.out.ext HM.out.extTo) k hlt
      obtain ⟨e, he⟩ : ∃ e, l[k].e = e := ⟨_, rfl⟩
      obtain ⟨⟨s0, s1, s2⟩, hs⟩ : ∃ s, ofK l m k = s := ⟨_, rfl⟩
      have HST : Hid (ofK l m (k + 1) = ofStep m ⟨s0, s1, s2⟩ k ⟨0, 0, e⟩) := Lib.hid (by rw [hst, hs, ← he]; rfl)
      rw [hs] at HM
      unfold St.cells at HM
      rw [he] at d0 d1 d2 d3
      clear hst he hs
      have g1 : (k : Int) < (l.length : Int) := by omega
      have g2 : ¬ (k : Int) < 0 := by omega
      obtain ⟨kind, member, number, text⟩ := e
      dsimp only at d0 d1 d2 d3
      have HH := Lib.hid hlt
      have g3 : (k : Int) < 4096 := by have := HL.out; omega
      by_cases h1 : member = m
      case neg =>
        have H1 := Lib.hid h1
        have fM := HM.out.facts
        simp only [seeS, talkR_tag, rowR_tag] at fM
        go_wp2_with fail
        all_goals clear fM
        go_roundw
        case rel =>
          refine ⟨k + 1, by omega, by go_num, Lib.hid ?_⟩
          rw [HST.out]
          unfold ofStep
          dsimp only
          rw [if_neg H1.out]
          dsimp only [St.cells]
          apply Mem.mem
          · skip
            with_reducible repeat first | exact HM.out | exact ph | apply pt | apply Mem.drew | apply Mem.alloc | apply Mem.set | apply Mem.allocO | (simp only [World.size_alloc, World.size_setCell, World.size_drew]; rfl) | rfl
          intro w8 M
          try simp only [List.set_cons_zero, List.set_cons_succ] at M
          exact Mem.sub M (by repeat first | exact Sub.nil | refine Sub.cons (by with_reducible repeat first | exact ph | apply pt) ?_)
        case measure => simp [intOf]; omega
      have H1 := Lib.hid h1
      have h1' : (member != m) = false := by simpa using h1
      have h1'' : (member == m) = true := by simpa using h1
      clear h1
      by_cases k2 : kind = 2
      · subst k2
        have fM := HM.out.facts
        simp only [seeS, talkR_tag, rowR_tag] at fM
        go_wp2_with fail
        all_goals clear fM
        go_roundw
        case rel =>
          refine ⟨k + 1, by omega, by go_num, Lib.hid ?_⟩
          rw [HST.out]
          unfold ofStep
          dsimp only
          rw [if_pos H1.out, if_pos rfl]
          dsimp only [St.cells]
          apply Mem.mem
          · skip
            with_reducible repeat first | exact HM.out | exact ph | apply pt | apply Mem.drew | apply Mem.alloc | apply Mem.set | apply Mem.allocO | (simp only [World.size_alloc, World.size_setCell, World.size_drew]; rfl) | rfl
          intro w8 M
          try simp only [List.set_cons_zero, List.set_cons_succ] at M
          exact Mem.sub M (by repeat first | exact Sub.nil | refine Sub.cons (by with_reducible repeat first | exact ph | apply pt) ?_)
        case measure => simp [intOf]; omega
      have K2 := Lib.hid k2
      have e2 : (kind == 2) = false := by simpa using k2
      by_cases k3 : kind = 3
      · subst k3
        have fM := HM.out.facts
        simp only [seeS, talkR_tag, rowR_tag] at fM
        go_wp2_with fail
        all_goals clear fM
        go_roundw
        case rel =>
          refine ⟨k + 1, by omega, by go_num, Lib.hid ?_⟩
          rw [HST.out]
          unfold ofStep
          dsimp only
          rw [if_pos H1.out, if_neg (by decide), if_pos rfl]
          dsimp only [St.cells]
          apply Mem.mem
          · skip
            with_reducible repeat first | exact HM.out | exact ph | apply pt | apply Mem.drew | apply Mem.alloc | apply Mem.set | apply Mem.allocO | (simp only [World.size_alloc, World.size_setCell, World.size_drew]; rfl) | rfl
          intro w8 M
          try simp only [List.set_cons_zero, List.set_cons_succ] at M
          exact Mem.sub M (by repeat first | exact Sub.nil | refine Sub.cons (by with_reducible repeat first | exact ph | apply pt) ?_)
        case measure => simp [intOf]; omega
      have K3 := Lib.hid k3
      have e3 : (kind == 3) = false := by simpa using k3
      by_cases k4 : kind = 4
      · subst k4
        have fM := HM.out.facts
        simp only [seeS, talkR_tag, rowR_tag] at fM
        go_wp2_with fail
        all_goals clear fM
        go_roundw
        case rel =>
          refine ⟨k + 1, by omega, by go_num, Lib.hid ?_⟩
          rw [HST.out]
          unfold ofStep
          dsimp only
          rw [if_pos H1.out, if_neg (by decide), if_neg (by decide), if_pos rfl]
          dsimp only [St.cells]
          apply Mem.mem
          · skip
            with_reducible repeat first | exact HM.out | exact ph | apply pt | apply Mem.drew | apply Mem.alloc | apply Mem.set | apply Mem.allocO | (simp only [World.size_alloc, World.size_setCell, World.size_drew]; rfl) | rfl
          intro w8 M
          try simp only [List.set_cons_zero, List.set_cons_succ] at M
          exact Mem.sub M (by repeat first | exact Sub.nil | refine Sub.cons (by with_reducible repeat first | exact ph | apply pt) ?_)
        case measure => simp [intOf]; omega
      · have K4 := Lib.hid k4
        have e4 : (kind == 4) = false := by simpa using k4
        have fM := HM.out.facts
        simp only [seeS, talkR_tag, rowR_tag] at fM
        go_wp2_with fail
        all_goals clear fM
        go_roundw
        case rel =>
          refine ⟨k + 1, by omega, by go_num, Lib.hid ?_⟩
          rw [HST.out]
          unfold ofStep
          dsimp only
          rw [if_pos H1.out, if_neg K2.out, if_neg K3.out, if_neg K4.out]
          dsimp only [St.cells]
          apply Mem.mem
          · skip
            with_reducible repeat first | exact HM.out | exact ph | apply pt | apply Mem.drew | apply Mem.alloc | apply Mem.set | apply Mem.allocO | (simp only [World.size_alloc, World.size_setCell, World.size_drew]; rfl) | rfl
          intro w8 M
          try simp only [List.set_cons_zero, List.set_cons_succ] at M
          exact Mem.sub M (by repeat first | exact Sub.nil | refine Sub.cons (by with_reducible repeat first | exact ph | apply pt) ?_)
        case measure => simp [intOf]; omega
    · obtain rfl : k = l.length := by omega
      clear hlt hk
      obtain ⟨⟨s0, s1, s2⟩, hs⟩ : ∃ s, ofK l m l.length = s := ⟨_, rfl⟩
      have HS := Lib.hid hs
      rw [hs] at HM
      unfold St.cells at HM
      clear hs
      have fM := HM.out.facts
      simp only [seeS, talkR_tag, rowR_tag] at fM
      go_wp2_with fail
      all_goals clear fM
      first | apply Mem.call | apply Mem.postD | apply Mem.stop | apply Mem.toUpd | apply Mem.list | apply Mem.code | apply Mem.post | apply Mem.postM
      · with_reducible repeat first | exact HM.out | exact ph | apply pt | apply Mem.drew | apply Mem.alloc | apply Mem.set | apply Mem.allocO | (simp only [World.size_alloc, World.size_setCell, World.size_drew]; rfl) | rfl
      intro w8 M
      try simp only [List.set_cons_zero, List.set_cons_succ] at M
      replace HM := Lib.hid M
      clear M
      obtain ⟨Ahb, hb⟩ := HM.out.get (r := cellsR (w.heap.size + 1) 90 [.bool s0, .int .i64 s1, .int .i64 s2]) (by with_reducible repeat first | exact ph | apply pt)
      have q1 := hb.2.reads.1
      refine bodyPost_ret (v := .agg #[.bool s0, .int .i64 s1, .int .i64 s2]) (by simp [results, Tryd.results60, go_sem, q1]) rfl ⟨by rw [HS.out]; rfl, HM.out.extTo⟩
end Go.Proofs.YthhdgjofagdjeaaDoor
end
section
/- The document's talk: would an entry count, an entry applied that does. Condition: its lines lie as 'RowAt' says; of the table of standings that they are those of the lines. -/
set_option linter.unusedVariables false
set_option linter.unusedSimpArgs false
set_option maxHeartbeats 2000000
set_option maxRecDepth 100000
namespace Go.Proofs.YthhdgjofagdjeaaDoor
open Go.RowKit Go.Shelf

def lnE : Enc Ln := ⟨Ln.cells, 6, fun _ => rfl, fun x u hu => by
  simp only [Ln.cells, List.mem_cons, List.not_mem_nil, or_false] at hu
  rcases hu with rfl | rfl | rfl | rfl | rfl | rfl <;> rfl⟩
def enE : Enc En := ⟨En.cells, 4, fun _ => rfl, fun x u hu => by
  simp only [En.cells, List.mem_cons, List.not_mem_nil, or_false] at hu
  rcases hu with rfl | rfl | rfl | rfl <;> rfl⟩
theorem lnE_row : ∀ l : List Ln, lnE.row l = lnsC l
  | [] => rfl
  | x :: l => by rw [Enc.row, lnE_row l]; simp [lnsC, lnE]
theorem row_lns {w : World} {base : Nat} {v : Value} {l : List Ln} (h : RowAt lnE w base v l) : Win w 0 6 v l.length (lnsC l) := by
  have := Win.mono h (Nat.zero_le _)
  rw [lnE_row] at this
  exact this
theorem infoEn : (Tryd.prog.info? 35).map (fun i => (i.zero, i.size, i.bytes)) = some (some (.agg #[.int .i64 0, .int .i64 0, .int .i64 0, .string ⟨#[]⟩]), 4, 40) := by kernel_rfl
theorem add_lns {W w : World} (ty : TypeId) (hE : Ext W w) {v : Value} {l : List Ln} (hw : RowAt lnE w W.heap.size v l) (x : Value) (l' : List Ln) (hs : SrcCells w x l'.length (lnE.row l')) (hl : l.length + l'.length ≤ 1000000) :
    ∃ v' w', (Builtin.append_ #[42, 42] ty #[v, x]).run Tryd.prog w = .ok v' w' ∧ RowAt lnE w' W.heap.size v' (l ++ l') ∧ Ext W w' := by
  obtain ⟨i0, hi, hz0, hz1, hz2⟩ := info_parts infoLine
  exact fresh_append 42 42 ty 58 i0 _ 56 Tryd.underlying42 Tryd.underlying42 hi hz0 hz1 hz2 rfl hE hw x l' hs (by simp [maxLen]; omega) (by omega)
theorem add_ens {W w : World} (ty : TypeId) (hE : Ext W w) {v : Value} {l : List En} (hw : RowAt enE w W.heap.size v l) (x : Value) (l' : List En) (hs : SrcCells w x l'.length (enE.row l')) (hl : l.length + l'.length ≤ 1000000) :
    ∃ v' w', (Builtin.append_ #[47, 47] ty #[v, x]).run Tryd.prog w = .ok v' w' ∧ RowAt enE w' W.heap.size v' (l ++ l') ∧ Ext W w' := by
  obtain ⟨i0, hi, hz0, hz1, hz2⟩ := info_parts infoEn
  exact fresh_append 47 47 ty 35 i0 _ 40 Tryd.underlying47 Tryd.underlying47 hi hz0 hz1 hz2 rfl hE hw x l' hs (by simp [maxLen]; omega) (by omega)
theorem rwould_any {base : Nat} (w : World) (v : Value) (slot : Int) (T : TA) (e : En) (hv : RowAt lnE w base v T.l) (hl : T.l.length ≤ 4096) (hT : T.Ok) (he : e.text.length ≤ 500000) :
    Calls Tryd.prog 41 #[.agg #[.int .i64 slot, v], e.v] w fun r w' => r = .returned (.bool (enB e && (countsR T e).2)) ∧ Ext w w' := by
  have HV := Lib.hid hv
  have HL := Lib.hid hl
  have HT := Lib.hid hT
  have HTX := Lib.hid he
  have HM := Lib.hid (Mem.start0 w)
  have HEV := Lib.hid (show e.v = .agg #[.int .i64 e.kind, .int .i64 e.member, .int .i64 e.number, .string (bs e.text)] from rfl)
  rw [HEV.out]
  clear hv hl hT he
  go_enter Tryd.func41, Tryd.ntmps41
  have fM := HM.out.facts
  simp only [seeS, talkR_tag, rowR_tag] at fM
  go_wp2_with fail
  all_goals clear fM
  first | apply Mem.call | apply Mem.postD | apply Mem.stop | apply Mem.toUpd | apply Mem.list | apply Mem.code | apply Mem.post | apply Mem.postM
  · with_reducible repeat first | exact HM.out | exact ph | apply pt | apply Mem.drew | apply Mem.alloc | apply Mem.set | apply Mem.allocO | (simp only [World.size_alloc, World.size_setCell, World.size_drew]; rfl) | rfl
  intro w0 M
  try simp only [List.set_cons_zero, List.set_cons_succ] at M
  replace HM := Lib.hid M
  clear M
  rw [← HEV.out]
  refine (entry14_any w0 e HTX.out).mono ?_
  rintro r w1 ⟨rfl, hE⟩
  replace HM := Lib.hid (HM.out.ext hE)
  clear hE
  cases hb : enB e
  · skip
    have HB := Lib.hid hb
    clear hb
    have fM := HM.out.facts
    simp only [seeS, talkR_tag, rowR_tag] at fM
    go_wp2_with fail
    all_goals clear fM
    go_ret
    exact ⟨by rw [HB.out]; simp, HM.out.extTo⟩
  have HB := Lib.hid hb
  obtain ⟨p, hp, h16⟩ := enB_mem hb
  have hcs : ∀ s, ofK T.l e.member T.l.length = s → countsR T e = (if e.kind = 2 then (⟨true, (T.l.length : Int), s.last⟩, !s.inn) else if e.kind = 3 then (⟨false, s.joined, s.last⟩, s.inn) else if e.kind = 4 then (⟨s.inn, s.joined, e.number⟩, saysB s e) else (⟨false, 0, 0⟩, false)) := by
    intro s hs
    unfold countsR
    rw [hp, Int.toNat_natCast, HT.out.2 p h16, ← hp, hs]
  have HCS := Lib.hid hcs
  clear hcs hb hp h16
  have fM := HM.out.facts
  simp only [seeS, talkR_tag, rowR_tag] at fM
  go_wp2_with fail
  all_goals clear fM
  first | apply Mem.call | apply Mem.postD | apply Mem.stop | apply Mem.toUpd | apply Mem.list | apply Mem.code | apply Mem.post | apply Mem.postM
  · with_reducible repeat first | exact HM.out | exact ph | apply pt | apply Mem.drew | apply Mem.alloc | apply Mem.set | apply Mem.allocO | (simp only [World.size_alloc, World.size_setCell, World.size_drew]; rfl) | rfl
  intro w2 M
  try simp only [List.set_cons_zero, List.set_cons_succ] at M
  replace HM := Lib.hid M
  clear M
  refine (of_any w2 v slot e.member T.l (row_lns (HV.out.ext HM.out.extTo)) HL.out).mono ?_
  rintro r w3 ⟨rfl, hE⟩
  replace HM := Lib.hid (HM.out.ext hE)
  clear hE
  obtain ⟨⟨s0, s1, s2⟩, hs⟩ : ∃ s, ofK T.l e.member T.l.length = s := ⟨_, rfl⟩
  have HC := Lib.hid (HCS.out _ hs)
  rw [hs]
  clear hs
  unfold St.v
  by_cases k2 : e.kind = 2
  · have hq : (countsR T e).2 = !s0 := by rw [HC.out, if_pos k2]
    have HQ := Lib.hid hq
    clear hq
    have fM := HM.out.facts
    simp only [seeS, talkR_tag, rowR_tag] at fM
    go_wp2_with fail
    all_goals clear fM
    go_ret
    refine ⟨by rw [HB.out, HQ.out]; simp, ?_⟩
    apply Mem.extTo
    with_reducible repeat first | exact HM.out | exact ph | apply pt | apply Mem.drew | apply Mem.alloc | apply Mem.set | apply Mem.allocO | (simp only [World.size_alloc, World.size_setCell, World.size_drew]; rfl) | rfl
  have e2 : (e.kind == 2) = false := by simpa using k2
  by_cases k3 : e.kind = 3
  · have hq : (countsR T e).2 = s0 := by rw [HC.out, if_neg k2, if_pos k3]
    have HQ := Lib.hid hq
    clear hq k2
    have fM := HM.out.facts
    simp only [seeS, talkR_tag, rowR_tag] at fM
    go_wp2_with fail
    all_goals clear fM
    go_ret
    refine ⟨by rw [HB.out, HQ.out]; simp, ?_⟩
    apply Mem.extTo
    with_reducible repeat first | exact HM.out | exact ph | apply pt | apply Mem.drew | apply Mem.alloc | apply Mem.set | apply Mem.allocO | (simp only [World.size_alloc, World.size_setCell, World.size_drew]; rfl) | rfl
  have e3 : (e.kind == 3) = false := by simpa using k3
  by_cases k4 : e.kind = 4
  · have hq : (countsR T e).2 = (s0 && (e.number == wrap64 (s2 + 1))) := by rw [HC.out, if_neg k2, if_neg k3, if_pos k4]; rfl
    have HQ := Lib.hid hq
    clear hq k2 k3
    cases s0
    · skip
      have fM := HM.out.facts
      simp only [seeS, talkR_tag, rowR_tag] at fM
      go_wp2_with fail
      all_goals clear fM
      go_ret
      refine ⟨by rw [HB.out, HQ.out]; simp, ?_⟩
      apply Mem.extTo
      with_reducible repeat first | exact HM.out | exact ph | apply pt | apply Mem.drew | apply Mem.alloc | apply Mem.set | apply Mem.allocO | (simp only [World.size_alloc, World.size_setCell, World.size_drew]; rfl) | rfl
    · skip
      have fM := HM.out.facts
      simp only [seeS, talkR_tag, rowR_tag] at fM
      go_wp2_with fail
      all_goals clear fM
      go_ret
      refine ⟨by rw [HB.out, HQ.out]; simp, ?_⟩
      apply Mem.extTo
      with_reducible repeat first | exact HM.out | exact ph | apply pt | apply Mem.drew | apply Mem.alloc | apply Mem.set | apply Mem.allocO | (simp only [World.size_alloc, World.size_setCell, World.size_drew]; rfl) | rfl
  · have hq : (countsR T e).2 = false := by rw [HC.out, if_neg k2, if_neg k3, if_neg k4]
    have HQ := Lib.hid hq
    have e4 : (e.kind == 4) = false := by simpa using k4
    clear hq k2 k3 k4
    have fM := HM.out.facts
    simp only [seeS, talkR_tag, rowR_tag] at fM
    go_wp2_with fail
    all_goals clear fM
    go_ret
    refine ⟨by rw [HB.out, HQ.out]; simp, ?_⟩
    apply Mem.extTo
    with_reducible repeat first | exact HM.out | exact ph | apply pt | apply Mem.drew | apply Mem.alloc | apply Mem.set | apply Mem.allocO | (simp only [World.size_alloc, World.size_setCell, World.size_drew]; rfl) | rfl

section
variable {F : Nat → Prop} {w0 W wc : World} {L : List Res} {base g c : Nat} {v : Value} {t : TypeId}
theorem Mem.copyLns {l : List Ln} (ty : TypeId) (h : Mem F w0 wc (cellsR g t [] :: L)) (hE : Ext W wc) (hb : W.heap.size ≤ g) (hv : RowAt lnE W base v l) (hl : l.length ≤ 4096) :
    ∃ v' w', (Builtin.append_ #[42, 42] ty #[.slice (some ⟨g, 0, none⟩) 0 0, v]).run Tryd.prog wc = .ok v' w' ∧ Mem F w0 w' (rowR lnE v' l :: L) ∧ Ext W w' ∧ ∀ k, Own v' k → W.heap.size ≤ k := by
  obtain ⟨i0, hi, hz0, hz1, hz2⟩ := info_parts infoLine
  exact Mem.rowUp (l := []) 42 42 ty 58 i0 _ 56 Tryd.underlying42 Tryd.underlying42 hi hz0 hz1 hz2 rfl h (fun A hA => row_of_empty hA) hE (own_at hb) v l (hv.ext hE).src (by simp [maxLen]; omega) (by simp; omega)
theorem Mem.addLn {l : List Ln} {L' : List Res} (x : Ln) (ty : TypeId) (h : Mem F w0 wc L) (p : Pick L (rowR lnE v l) L') (hE : Ext W wc) (hn : ∀ k, Own v k → W.heap.size ≤ k) (hx : ∀ o, wc.cell? ⟨g, o, none⟩ = (Ln.cells x)[o]?) (hl : l.length ≤ 4096) :
    ∃ v' w', (Builtin.append_ #[42, 42] ty #[v, .slice (some ⟨g, 0, none⟩) 1 c]).run Tryd.prog wc = .ok v' w' ∧ Mem F w0 w' (rowR lnE v' (l ++ [x]) :: L') ∧ Ext W w' ∧ ∀ k, Own v' k → W.heap.size ≤ k := by
  obtain ⟨i0, hi, hz0, hz1, hz2⟩ := info_parts infoLine
  exact Mem.rowUp 42 42 ty 58 i0 _ 56 Tryd.underlying42 Tryd.underlying42 hi hz0 hz1 hz2 rfl (h.pick p) (fun A hA => row_of_row hA) hE hn _ [x] (one_src hx) (by simp [maxLen]; omega) (by simp; omega)
theorem Mem.copyEns {l : List En} (ty : TypeId) (h : Mem F w0 wc (cellsR g t [] :: L)) (hE : Ext W wc) (hb : W.heap.size ≤ g) (hv : RowAt enE W base v l) (hl : l.length ≤ 4096) :
    ∃ v' w', (Builtin.append_ #[47, 47] ty #[.slice (some ⟨g, 0, none⟩) 0 0, v]).run Tryd.prog wc = .ok v' w' ∧ Mem F w0 w' (rowR enE v' l :: L) ∧ Ext W w' ∧ ∀ k, Own v' k → W.heap.size ≤ k := by
  obtain ⟨i0, hi, hz0, hz1, hz2⟩ := info_parts infoEn
  exact Mem.rowUp (l := []) 47 47 ty 35 i0 _ 40 Tryd.underlying47 Tryd.underlying47 hi hz0 hz1 hz2 rfl h (fun A hA => row_of_empty hA) hE (own_at hb) v l (hv.ext hE).src (by simp [maxLen]; omega) (by simp; omega)
theorem Mem.addEn {l : List En} {L' : List Res} (x : En) (ty : TypeId) (h : Mem F w0 wc L) (p : Pick L (rowR enE v l) L') (hE : Ext W wc) (hn : ∀ k, Own v k → W.heap.size ≤ k) (hx : ∀ o, wc.cell? ⟨g, o, none⟩ = (En.cells x)[o]?) (hl : l.length ≤ 4096) :
    ∃ v' w', (Builtin.append_ #[47, 47] ty #[v, .slice (some ⟨g, 0, none⟩) 1 c]).run Tryd.prog wc = .ok v' w' ∧ Mem F w0 w' (rowR enE v' (l ++ [x]) :: L') ∧ Ext W w' ∧ ∀ k, Own v' k → W.heap.size ≤ k := by
  obtain ⟨i0, hi, hz0, hz1, hz2⟩ := info_parts infoEn
  exact Mem.rowUp 47 47 ty 35 i0 _ 40 Tryd.underlying47 Tryd.underlying47 hi hz0 hz1 hz2 rfl (h.pick p) (fun A hA => row_of_row hA) hE hn _ [x] (one_src hx) (by simp [maxLen]; omega) (by simp; omega)
end
theorem rapply_any {base : Nat} (w : World) (v : Value) (T : TA) (e : En) (hv : RowAt lnE w base v T.l) (hl : T.l.length ≤ 4096) (hT : T.Ok) (he : e.text.length ≤ 500000) (hb : enB e = true) (hc : (countsR T e).2 = true) (h0 : 0 ≤ T.slot) (h4 : T.slot < 4096) :
    Calls Tryd.prog 42 #[.agg #[.int .i64 T.slot, v], .int .i64 T.slot, e.v] w fun r w' =>
      ∃ v', r = .returned (.tuple #[.agg #[.int .i64 (T.slot + 1), v'], (⟨(T.l.length : Int), T.slot, e⟩ : Ln).v, .bool true, .int .i64 0]) ∧ RowAt lnE w' w.heap.size v' (T.put e).l ∧ Ext w w' := by
  have HV := Lib.hid hv
  have HL := Lib.hid hl
  have HT := Lib.hid hT
  have HTX := Lib.hid he
  have HB := Lib.hid hb
  have HC := Lib.hid hc
  have HM := Lib.hid (Mem.start0 w)
  have HEV := Lib.hid (show e.v = .agg #[.int .i64 e.kind, .int .i64 e.member, .int .i64 e.number, .string (bs e.text)] from rfl)
  have g1 : ¬ 4096 ≤ T.slot := by omega
  obtain ⟨a, c, rfl⟩ := hv.len
  rw [HEV.out]
  clear hv hl hT he hb hc
  go_enter Tryd.func42, Tryd.ntmps42
  have fM := HM.out.facts
  simp only [seeS, talkR_tag, rowR_tag] at fM
  go_wp2_with fail
  all_goals clear fM
  first | apply Mem.call | apply Mem.postD | apply Mem.stop | apply Mem.toUpd | apply Mem.list | apply Mem.code | apply Mem.post | apply Mem.postM
  · with_reducible repeat first | exact HM.out | exact ph | apply pt | apply Mem.drew | apply Mem.alloc | apply Mem.set | apply Mem.allocO | (simp only [World.size_alloc, World.size_setCell, World.size_drew]; rfl) | rfl
  intro w0 M
  try simp only [List.set_cons_zero, List.set_cons_succ] at M
  replace HM := Lib.hid M
  clear M
  rw [← HEV.out]
  refine (entry14_any w0 e HTX.out).mono ?_
  rintro r w1 ⟨rfl, hE⟩
  replace HM := Lib.hid (HM.out.ext hE)
  clear hE
  rw [HB.out]
  have fM := HM.out.facts
  simp only [seeS, talkR_tag, rowR_tag] at fM
  go_wp2_with fail
  all_goals clear fM
  first | apply Mem.call | apply Mem.postD | apply Mem.stop | apply Mem.toUpd | apply Mem.list | apply Mem.code | apply Mem.post | apply Mem.postM
  · with_reducible repeat first | exact HM.out | exact ph | apply pt | apply Mem.drew | apply Mem.alloc | apply Mem.set | apply Mem.allocO | (simp only [World.size_alloc, World.size_setCell, World.size_drew]; rfl) | rfl
  intro w2 M
  try simp only [List.set_cons_zero, List.set_cons_succ] at M
  replace HM := Lib.hid M
  clear M
  rw [← HEV.out]
  refine (rwould_any w2 _ T.slot T e (HV.out.ext HM.out.extTo) HL.out HT.out HTX.out).mono ?_
  rintro r w3 ⟨rfl, hE⟩
  replace HM := Lib.hid (HM.out.ext hE)
  clear hE
  rw [HB.out, HC.out]
  have hww : wrap64 (T.slot + 1) = T.slot + 1 := IntWalk.wrap64_in _ (by omega)
  have fM := HM.out.facts
  simp only [seeS, talkR_tag, rowR_tag] at fM
  go_wp2_with fail
  all_goals clear fM
  first | apply Mem.call | apply Mem.postD | apply Mem.stop | apply Mem.toUpd | apply Mem.list | apply Mem.code | apply Mem.post | apply Mem.postM
  · with_reducible repeat first | exact HM.out | exact ph | apply pt | apply Mem.drew | apply Mem.alloc | apply Mem.set | apply Mem.allocO | (simp only [World.size_alloc, World.size_setCell, World.size_drew]; rfl) | rfl
  intro w4 M
  try simp only [List.set_cons_zero, List.set_cons_succ] at M
  replace HM := Lib.hid M
  clear M
  have HE4 := Lib.hid HM.out.extTo
  have HV4 := Lib.hid (HV.out.ext HM.out.extTo)
  have fM := HM.out.facts
  simp only [seeS, talkR_tag, rowR_tag] at fM
  have hE0 : Keeps NoB w4 w4.drew := (Keeps.refl _ _).drew
  refine wp_region_forks [2, 4] [0, 3, 5, 6, 7, 8] (ClsE w4) (by kernel_rfl) ?_
  refine any_seg (L := #[false, true, true, false, true, false, false, false, false]) [(0, 1), (1, 2), (1, 4)] 6 (by kernel_rfl) (fun _ _ _ d _ h => by cases d <;> exact h) (by kernel_rfl) (by kernel_rfl) rfl rfl (ClsE.of (by repeat (first | assumption | exact Keeps.refl _ _ | refine Keeps.alloc ?_ _ | refine Keeps.setOne ?_ _ _ | refine Keeps.setCell ?_ _ _ (.inl (by first | rfl | exact .inl rfl | exact .inr rfl | omega)) | refine Keeps.drew ?_))) ?_; simp only [planL, List.getElem?_toArray, List.getElem?_cons_succ, List.getElem?_cons_zero]
  refine plan_pure rfl (fun K hK => quiet_run (v := ?_) (fun W _ => ?_) (hK _ ?_)); rotate_left; (go_simp <;> with_reducible rfl); clear hK K; simp only [nP]
  refine plan_load rfl (fun K hK => quiet_runE (v := ?_) (fun W => ?_) (hK _ ?_)); rotate_left; (go_simp <;> with_reducible rfl); clear hK K; simp only [nP]
  refine plan_load rfl (fun K hK => quiet_runE (v := ?_) (fun W => ?_) (hK _ ?_)); rotate_left; (go_simp <;> with_reducible rfl); clear hK K; simp only [nP]
  refine plan_nil ?_
  refine any_fork 0 5 (by kernel_rfl) (by kernel_rfl) rfl rfl rfl rfl (fun K hK => ?_) (fun K hK => ?_)
  · skip
    go_wp2_with fail
    refine ⟨ClsE.of (by repeat (first | assumption | exact Keeps.refl _ _ | refine Keeps.alloc ?_ _ | refine Keeps.setOne ?_ _ _ | refine Keeps.setCell ?_ _ _ (.inl (by first | rfl | exact .inl rfl | exact .inr rfl | omega)) | refine Keeps.drew ?_)), ?_⟩; try simp only [nP]
    refine any_seg (L := #[true, true, true, false, true, false, false, false, false]) [] 5 (by kernel_rfl) (fun _ _ _ d _ h => by cases d <;> exact h) (by kernel_rfl) (by kernel_rfl) rfl rfl (ClsE.of (by repeat (first | assumption | exact Keeps.refl _ _ | refine Keeps.alloc ?_ _ | refine Keeps.setOne ?_ _ _ | refine Keeps.setCell ?_ _ _ (.inl (by first | rfl | exact .inl rfl | exact .inr rfl | omega)) | refine Keeps.drew ?_))) ?_; simp only [planL, List.getElem?_toArray, List.getElem?_cons_succ, List.getElem?_cons_zero]
    refine plan_nil ?_
    refine any_fork 3 5 (by kernel_rfl) (by kernel_rfl) rfl rfl rfl rfl (fun K hK => ?_) (fun K hK => ?_)
    · skip
      refine Mem.oper (wr := w4) (by with_reducible repeat first | exact HM.out | exact ph | apply pt | apply Mem.drew | apply Mem.alloc | apply Mem.set | apply Mem.allocO | (simp only [World.size_alloc, World.size_setCell, World.size_drew]; rfl) | rfl) (by repeat (first | assumption | exact Keeps.refl _ _ | with_reducible apply Keeps.drew | with_reducible apply Keeps.alloc)) fun w5 M hE5 => ?_
      try simp only [List.set_cons_zero, List.set_cons_succ] at M
      replace HM := Lib.hid M
      clear M
      obtain ⟨v6, w6, hr, hm, hE6, hn6⟩ := Mem.copyLns 42 (HM.out.pick (r := cellsR _ 58 []) (by with_reducible repeat first | exact ph | apply pt)) hE5 (by first | exact Nat.le_refl _ | omega) HV4.out HL.out
      replace HM := Lib.hid hm
      have HN6 := Lib.hid hn6
      refine oper_append_ran _ _ hr rfl rfl rfl ?_
      clear hr hm hn6 hE5
      refine hK _ _ ⟨ClsE.of (by assumption), ?_⟩; clear hK K; try simp only [nP]
      refine any_end [(2, 5)] [6, 7, 8] (by kernel_rfl) (fun _ _ _ d _ h => by cases d <;> exact h) (by kernel_rfl) (by kernel_rfl) rfl rfl (ClsE.of (by repeat (first | assumption | exact Keeps.refl _ _ | refine Keeps.alloc ?_ _ | refine Keeps.setOne ?_ _ _ | refine Keeps.setCell ?_ _ _ (.inl (by first | rfl | exact .inl rfl | exact .inr rfl | omega)) | refine Keeps.drew ?_))) ?_; simp only [planL, List.getElem?_toArray, List.getElem?_cons_succ, List.getElem?_cons_zero]
      refine plan_does rfl (fun K hK => ?_)
      go_wp2_with fail
      refine ⟨ClsE.of (by repeat (first | assumption | exact Keeps.refl _ _ | refine Keeps.alloc ?_ _ | refine Keeps.setOne ?_ _ _ | refine Keeps.setCell ?_ _ _ (.inl (by first | rfl | exact .inl rfl | exact .inr rfl | omega)) | refine Keeps.drew ?_)), ?_⟩; try simp only [nP]
      refine plan_nil ?_; simp only [tailL, List.filterMap_cons, List.filterMap_nil, List.getElem?_toArray, List.getElem?_cons_succ, List.getElem?_cons_zero]; change wpList _ _ _ (_ :: _ :: _ :: []) _ _
      clear fM
      try clear hE6
      have fM := HM.out.facts
      simp only [seeS, talkR_tag, rowR_tag] at fM
      go_wp2_with (at_builtin; refine standing ?_)
      all_goals clear fM
      first | apply Mem.call | apply Mem.postD | apply Mem.stop | apply Mem.toUpd | apply Mem.list | apply Mem.code | apply Mem.post | apply Mem.postM
      · with_reducible repeat first | exact HM.out | exact ph | apply pt | apply Mem.drew | apply Mem.alloc | apply Mem.set | apply Mem.allocO | (simp only [World.size_alloc, World.size_setCell, World.size_drew]; rfl) | rfl
      intro w7 M
      try simp only [List.set_cons_zero, List.set_cons_succ] at M
      replace HM := Lib.hid M
      clear M
      obtain ⟨Ahb, hb⟩ := HM.out.get (r := cellsR _ 58 [.int .i64 (T.l.length : Int), .int .i64 T.slot, .int .i64 e.kind, .int .i64 e.member, .int .i64 e.number, .string (bs e.text)]) (by with_reducible repeat first | exact ph | apply pt)
      obtain ⟨v8, w8, hr, hm, -, hn8⟩ := Mem.addLn (c := 1) ⟨(T.l.length : Int), T.slot, e⟩ 42 HM.out (by with_reducible repeat first | exact ph | apply pt) HM.out.extTo (fun k hk => Nat.le_trans HE4.out.size (HN6.out k hk)) hb.2.reads.1 HL.out
      obtain ⟨l8, hl8⟩ : ∃ l8, T.l ++ [(⟨(T.l.length : Int), T.slot, e⟩ : Ln)] = l8 := ⟨_, rfl⟩
      rw [hl8] at hm
      have HL8 := Lib.hid hl8
      clear hl8
      obtain ⟨p8, c8, rfl⟩ := hm.fact (fun A h => row_len h)
      replace HM := Lib.hid hm
      refine ⟨?_⟩
      refine wpList_append_ran rfl _ _ hr rfl rfl rfl ?_
      clear hr hm hn8 hb
      try clear Ahb
      have fM := HM.out.facts
      simp only [seeS, talkR_tag, rowR_tag] at fM
      go_wp2_with fail
      all_goals clear fM
      first | apply Mem.call | apply Mem.postD | apply Mem.stop | apply Mem.toUpd | apply Mem.list | apply Mem.code | apply Mem.post | apply Mem.postM
      · with_reducible repeat first | exact HM.out | exact ph | apply pt | apply Mem.drew | apply Mem.alloc | apply Mem.set | apply Mem.allocO | (simp only [World.size_alloc, World.size_setCell, World.size_drew]; rfl) | rfl
      intro w9 M
      try simp only [List.set_cons_zero, List.set_cons_succ] at M
      replace HM := Lib.hid M
      clear M
      have fM := HM.out.facts
      simp only [seeS, talkR_tag, rowR_tag] at fM
      have hE0 : Keeps (OneB (w.heap.size + 1 + 1)) w9 w9.drew := (Keeps.refl _ _).drew
      refine wp_region_plan [(3, 0), (1, 1), (2, 2)] [1] [2, 3, 4, 5] [3, 4, 5] (ClsK (OneB (w.heap.size + 1 + 1)) w9) (by kernel_rfl) (by kernel_rfl) (by kernel_rfl) rfl rfl (ClsK.of hE0) (fun _ _ _ d _ h => by cases d <;> exact h) ?_; simp only [planL, List.getElem?_toArray, List.getElem?_cons_succ, List.getElem?_cons_zero]
      refine plan_exact rfl (fun K hK => quiet_runX (v := ?_) ?_ (hK _ ?_)); rotate_left; (go_simp <;> with_reducible rfl); clear hK K; simp only [nP]
      refine plan_load rfl (fun K hK => quiet_runK (v := ?_) (fun W => ?_) (hK _ ?_)); rotate_left; (go_simp <;> with_reducible rfl); clear hK K; simp only [nP]
      refine plan_does rfl (fun K hK => ?_)
      go_wp2_with fail
      refine ⟨ClsK.of (by repeat (first | assumption | exact Keeps.refl _ _ | refine Keeps.alloc ?_ _ | refine Keeps.setOne ?_ _ _ | refine Keeps.setCell ?_ _ _ (.inl (by first | rfl | exact .inl rfl | exact .inr rfl | omega)) | refine Keeps.drew ?_)), ?_⟩; try simp only [nP]
      refine plan_nil ?_; simp only [tailL, List.filterMap_cons, List.filterMap_nil, List.getElem?_toArray, List.getElem?_cons_succ, List.getElem?_cons_zero]; change wpList _ _ _ (_ :: _ :: _ :: []) _ _
      go_wp2_with fail
      clear fM
      first | apply Mem.call | apply Mem.postD | apply Mem.stop | apply Mem.toUpd | apply Mem.list | apply Mem.code | apply Mem.post | apply Mem.postM
      · with_reducible repeat first | exact HM.out | exact ph | apply pt | apply Mem.drew | apply Mem.alloc | apply Mem.set | apply Mem.allocO | (simp only [World.size_alloc, World.size_setCell, World.size_drew]; rfl) | rfl
      intro w10 M
      try simp only [List.set_cons_zero, List.set_cons_succ] at M
      replace HM := Lib.hid M
      clear M
      obtain ⟨Ahb6, hb6⟩ := HM.out.get (r := cellsR (w.heap.size + 1 + 1) 44 [.int .i64 (T.slot + 1), .slice p8 l8.length c8]) (by with_reducible repeat first | exact ph | apply pt)
      obtain ⟨Ahb7, hb7⟩ := HM.out.get (r := cellsR (w.heap.size + 1 + 1 + 1) 58 [.int .i64 (T.l.length : Int), .int .i64 T.slot, .int .i64 e.kind, .int .i64 e.member, .int .i64 e.number, .string (bs e.text)]) (by with_reducible repeat first | exact ph | apply pt)
      have q6 := hb6.2.reads.1
      have q7 := hb7.2.reads.1
      have hU := (HM.out.pick (r := rowR lnE (.slice p8 l8.length c8) l8) (by with_reducible repeat first | exact ph | apply pt)).upd.row
      refine bodyPost_ret (v := .tuple #[.agg #[.int .i64 (T.slot + 1), .slice p8 l8.length c8], (⟨(T.l.length : Int), T.slot, e⟩ : Ln).v, .bool true, .int .i64 0]) (by simp [results, Tryd.results42, go_sem, q6, q7, Ln.v]) rfl ⟨_, rfl, ?_, hU.2⟩
      rw [show (T.put e).l = l8 from HL8.out]
      exact hU.1
    · skip
      go_wp2_with fail
      refine ⟨ClsE.of (by repeat (first | assumption | exact Keeps.refl _ _ | refine Keeps.alloc ?_ _ | refine Keeps.setOne ?_ _ _ | refine Keeps.setCell ?_ _ _ (.inl (by first | rfl | exact .inl rfl | exact .inr rfl | omega)) | refine Keeps.drew ?_)), ?_⟩; try simp only [nP]
      refine any_end [(2, 3)] [6, 7, 8] (by kernel_rfl) (fun _ _ _ d _ h => by cases d <;> exact h) (by kernel_rfl) (by kernel_rfl) rfl rfl (ClsE.of (by repeat (first | assumption | exact Keeps.refl _ _ | refine Keeps.alloc ?_ _ | refine Keeps.setOne ?_ _ _ | refine Keeps.setCell ?_ _ _ (.inl (by first | rfl | exact .inl rfl | exact .inr rfl | omega)) | refine Keeps.drew ?_))) ?_; simp only [planL, List.getElem?_toArray, List.getElem?_cons_succ, List.getElem?_cons_zero]
      refine plan_does rfl (fun K hK => ?_)
      refine Mem.oper (wr := w4) (by with_reducible repeat first | exact HM.out | exact ph | apply pt | apply Mem.drew | apply Mem.alloc | apply Mem.set | apply Mem.allocO | (simp only [World.size_alloc, World.size_setCell, World.size_drew]; rfl) | rfl) (by repeat (first | assumption | exact Keeps.refl _ _ | with_reducible apply Keeps.drew | with_reducible apply Keeps.alloc)) fun w5 M hE5 => ?_
      try simp only [List.set_cons_zero, List.set_cons_succ] at M
      replace HM := Lib.hid M
      clear M
      obtain ⟨v6, w6, hr, hm, hE6, hn6⟩ := Mem.copyLns 42 (HM.out.pick (r := cellsR _ 58 []) (by with_reducible repeat first | exact ph | apply pt)) hE5 (by first | exact Nat.le_refl _ | omega) HV4.out HL.out
      replace HM := Lib.hid hm
      have HN6 := Lib.hid hn6
      refine oper_append_ran _ _ hr rfl rfl rfl ?_
      clear hr hm hn6 hE5
      refine hK _ _ ⟨ClsE.of (by assumption), ?_⟩; clear hK K; try simp only [nP]
      refine plan_nil ?_; simp only [tailL, List.filterMap_cons, List.filterMap_nil, List.getElem?_toArray, List.getElem?_cons_succ, List.getElem?_cons_zero]; change wpList _ _ _ (_ :: _ :: _ :: []) _ _
      clear fM
      try clear hE6
      have fM := HM.out.facts
      simp only [seeS, talkR_tag, rowR_tag] at fM
      go_wp2_with (at_builtin; refine standing ?_)
      all_goals clear fM
      first | apply Mem.call | apply Mem.postD | apply Mem.stop | apply Mem.toUpd | apply Mem.list | apply Mem.code | apply Mem.post | apply Mem.postM
      · with_reducible repeat first | exact HM.out | exact ph | apply pt | apply Mem.drew | apply Mem.alloc | apply Mem.set | apply Mem.allocO | (simp only [World.size_alloc, World.size_setCell, World.size_drew]; rfl) | rfl
      intro w7 M
      try simp only [List.set_cons_zero, List.set_cons_succ] at M
      replace HM := Lib.hid M
      clear M
      obtain ⟨Ahb, hb⟩ := HM.out.get (r := cellsR _ 58 [.int .i64 (T.l.length : Int), .int .i64 T.slot, .int .i64 e.kind, .int .i64 e.member, .int .i64 e.number, .string (bs e.text)]) (by with_reducible repeat first | exact ph | apply pt)
      obtain ⟨v8, w8, hr, hm, -, hn8⟩ := Mem.addLn (c := 1) ⟨(T.l.length : Int), T.slot, e⟩ 42 HM.out (by with_reducible repeat first | exact ph | apply pt) HM.out.extTo (fun k hk => Nat.le_trans HE4.out.size (HN6.out k hk)) hb.2.reads.1 HL.out
      obtain ⟨l8, hl8⟩ : ∃ l8, T.l ++ [(⟨(T.l.length : Int), T.slot, e⟩ : Ln)] = l8 := ⟨_, rfl⟩
      rw [hl8] at hm
      have HL8 := Lib.hid hl8
      clear hl8
      obtain ⟨p8, c8, rfl⟩ := hm.fact (fun A h => row_len h)
      replace HM := Lib.hid hm
      refine ⟨?_⟩
      refine wpList_append_ran rfl _ _ hr rfl rfl rfl ?_
      clear hr hm hn8 hb
      try clear Ahb
      have fM := HM.out.facts
      simp only [seeS, talkR_tag, rowR_tag] at fM
      go_wp2_with fail
      all_goals clear fM
      first | apply Mem.call | apply Mem.postD | apply Mem.stop | apply Mem.toUpd | apply Mem.list | apply Mem.code | apply Mem.post | apply Mem.postM
      · with_reducible repeat first | exact HM.out | exact ph | apply pt | apply Mem.drew | apply Mem.alloc | apply Mem.set | apply Mem.allocO | (simp only [World.size_alloc, World.size_setCell, World.size_drew]; rfl) | rfl
      intro w9 M
      try simp only [List.set_cons_zero, List.set_cons_succ] at M
      replace HM := Lib.hid M
      clear M
      have fM := HM.out.facts
      simp only [seeS, talkR_tag, rowR_tag] at fM
      have hE0 : Keeps (OneB (w.heap.size + 1 + 1)) w9 w9.drew := (Keeps.refl _ _).drew
      refine wp_region_plan [(3, 0), (1, 1), (2, 2)] [1] [2, 3, 4, 5] [3, 4, 5] (ClsK (OneB (w.heap.size + 1 + 1)) w9) (by kernel_rfl) (by kernel_rfl) (by kernel_rfl) rfl rfl (ClsK.of hE0) (fun _ _ _ d _ h => by cases d <;> exact h) ?_; simp only [planL, List.getElem?_toArray, List.getElem?_cons_succ, List.getElem?_cons_zero]
      refine plan_exact rfl (fun K hK => quiet_runX (v := ?_) ?_ (hK _ ?_)); rotate_left; (go_simp <;> with_reducible rfl); clear hK K; simp only [nP]
      refine plan_load rfl (fun K hK => quiet_runK (v := ?_) (fun W => ?_) (hK _ ?_)); rotate_left; (go_simp <;> with_reducible rfl); clear hK K; simp only [nP]
      refine plan_does rfl (fun K hK => ?_)
      go_wp2_with fail
      refine ⟨ClsK.of (by repeat (first | assumption | exact Keeps.refl _ _ | refine Keeps.alloc ?_ _ | refine Keeps.setOne ?_ _ _ | refine Keeps.setCell ?_ _ _ (.inl (by first | rfl | exact .inl rfl | exact .inr rfl | omega)) | refine Keeps.drew ?_)), ?_⟩; try simp only [nP]
      refine plan_nil ?_; simp only [tailL, List.filterMap_cons, List.filterMap_nil, List.getElem?_toArray, List.getElem?_cons_succ, List.getElem?_cons_zero]; change wpList _ _ _ (_ :: _ :: _ :: []) _ _
      go_wp2_with fail
      clear fM
      first | apply Mem.call | apply Mem.postD | apply Mem.stop | apply Mem.toUpd | apply Mem.list | apply Mem.code | apply Mem.post | apply Mem.postM
      · with_reducible repeat first | exact HM.out | exact ph | apply pt | apply Mem.drew | apply Mem.alloc | apply Mem.set | apply Mem.allocO | (simp only [World.size_alloc, World.size_setCell, World.size_drew]; rfl) | rfl
      intro w10 M
      try simp only [List.set_cons_zero, List.set_cons_succ] at M
      replace HM := Lib.hid M
      clear M
      obtain ⟨Ahb6, hb6⟩ := HM.out.get (r := cellsR (w.heap.size + 1 + 1) 44 [.int .i64 (T.slot + 1), .slice p8 l8.length c8]) (by with_reducible repeat first | exact ph | apply pt)
      obtain ⟨Ahb7, hb7⟩ := HM.out.get (r := cellsR (w.heap.size + 1 + 1 + 1) 58 [.int .i64 (T.l.length : Int), .int .i64 T.slot, .int .i64 e.kind, .int .i64 e.member, .int .i64 e.number, .string (bs e.text)]) (by with_reducible repeat first | exact ph | apply pt)
      have q6 := hb6.2.reads.1
      have q7 := hb7.2.reads.1
      have hU := (HM.out.pick (r := rowR lnE (.slice p8 l8.length c8) l8) (by with_reducible repeat first | exact ph | apply pt)).upd.row
      refine bodyPost_ret (v := .tuple #[.agg #[.int .i64 (T.slot + 1), .slice p8 l8.length c8], (⟨(T.l.length : Int), T.slot, e⟩ : Ln).v, .bool true, .int .i64 0]) (by simp [results, Tryd.results42, go_sem, q6, q7, Ln.v]) rfl ⟨_, rfl, ?_, hU.2⟩
      rw [show (T.put e).l = l8 from HL8.out]
      exact hU.1
  · skip
    go_wp2_with fail
    refine ⟨ClsE.of (by repeat (first | assumption | exact Keeps.refl _ _ | refine Keeps.alloc ?_ _ | refine Keeps.setOne ?_ _ _ | refine Keeps.setCell ?_ _ _ (.inl (by first | rfl | exact .inl rfl | exact .inr rfl | omega)) | refine Keeps.drew ?_)), ?_⟩; try simp only [nP]
    refine any_end [(2, 0), (2, 3)] [6, 7, 8] (by kernel_rfl) (fun _ _ _ d _ h => by cases d <;> exact h) (by kernel_rfl) (by kernel_rfl) rfl rfl (ClsE.of (by repeat (first | assumption | exact Keeps.refl _ _ | refine Keeps.alloc ?_ _ | refine Keeps.setOne ?_ _ _ | refine Keeps.setCell ?_ _ _ (.inl (by first | rfl | exact .inl rfl | exact .inr rfl | omega)) | refine Keeps.drew ?_))) ?_; simp only [planL, List.getElem?_toArray, List.getElem?_cons_succ, List.getElem?_cons_zero]
    refine plan_does rfl (fun K hK => ?_)
    go_wp2_with fail
    refine ⟨ClsE.of (by repeat (first | assumption | exact Keeps.refl _ _ | refine Keeps.alloc ?_ _ | refine Keeps.setOne ?_ _ _ | refine Keeps.setCell ?_ _ _ (.inl (by first | rfl | exact .inl rfl | exact .inr rfl | omega)) | refine Keeps.drew ?_)), ?_⟩; try simp only [nP]
    refine plan_does rfl (fun K hK => ?_)
    refine Mem.oper (wr := w4) (by with_reducible repeat first | exact HM.out | exact ph | apply pt | apply Mem.drew | apply Mem.alloc | apply Mem.set | apply Mem.allocO | (simp only [World.size_alloc, World.size_setCell, World.size_drew]; rfl) | rfl) (by repeat (first | assumption | exact Keeps.refl _ _ | with_reducible apply Keeps.drew | with_reducible apply Keeps.alloc)) fun w5 M hE5 => ?_
    try simp only [List.set_cons_zero, List.set_cons_succ] at M
    replace HM := Lib.hid M
    clear M
    obtain ⟨v6, w6, hr, hm, hE6, hn6⟩ := Mem.copyLns 42 (HM.out.pick (r := cellsR _ 58 []) (by with_reducible repeat first | exact ph | apply pt)) hE5 (by first | exact Nat.le_refl _ | omega) HV4.out HL.out
    replace HM := Lib.hid hm
    have HN6 := Lib.hid hn6
    refine oper_append_ran _ _ hr rfl rfl rfl ?_
    clear hr hm hn6 hE5
    refine hK _ _ ⟨ClsE.of (by assumption), ?_⟩; clear hK K; try simp only [nP]
    refine plan_nil ?_; simp only [tailL, List.filterMap_cons, List.filterMap_nil, List.getElem?_toArray, List.getElem?_cons_succ, List.getElem?_cons_zero]; change wpList _ _ _ (_ :: _ :: _ :: []) _ _
    clear fM
    try clear hE6
    have fM := HM.out.facts
    simp only [seeS, talkR_tag, rowR_tag] at fM
    go_wp2_with (at_builtin; refine standing ?_)
    all_goals clear fM
    first | apply Mem.call | apply Mem.postD | apply Mem.stop | apply Mem.toUpd | apply Mem.list | apply Mem.code | apply Mem.post | apply Mem.postM
    · with_reducible repeat first | exact HM.out | exact ph | apply pt | apply Mem.drew | apply Mem.alloc | apply Mem.set | apply Mem.allocO | (simp only [World.size_alloc, World.size_setCell, World.size_drew]; rfl) | rfl
    intro w7 M
    try simp only [List.set_cons_zero, List.set_cons_succ] at M
    replace HM := Lib.hid M
    clear M
    obtain ⟨Ahb, hb⟩ := HM.out.get (r := cellsR _ 58 [.int .i64 (T.l.length : Int), .int .i64 T.slot, .int .i64 e.kind, .int .i64 e.member, .int .i64 e.number, .string (bs e.text)]) (by with_reducible repeat first | exact ph | apply pt)
    obtain ⟨v8, w8, hr, hm, -, hn8⟩ := Mem.addLn (c := 1) ⟨(T.l.length : Int), T.slot, e⟩ 42 HM.out (by with_reducible repeat first | exact ph | apply pt) HM.out.extTo (fun k hk => Nat.le_trans HE4.out.size (HN6.out k hk)) hb.2.reads.1 HL.out
    obtain ⟨l8, hl8⟩ : ∃ l8, T.l ++ [(⟨(T.l.length : Int), T.slot, e⟩ : Ln)] = l8 := ⟨_, rfl⟩
    rw [hl8] at hm
    have HL8 := Lib.hid hl8
    clear hl8
    obtain ⟨p8, c8, rfl⟩ := hm.fact (fun A h => row_len h)
    replace HM := Lib.hid hm
    refine ⟨?_⟩
    refine wpList_append_ran rfl _ _ hr rfl rfl rfl ?_
    clear hr hm hn8 hb
    try clear Ahb
    have fM := HM.out.facts
    simp only [seeS, talkR_tag, rowR_tag] at fM
    go_wp2_with fail
    all_goals clear fM
    first | apply Mem.call | apply Mem.postD | apply Mem.stop | apply Mem.toUpd | apply Mem.list | apply Mem.code | apply Mem.post | apply Mem.postM
    · with_reducible repeat first | exact HM.out | exact ph | apply pt | apply Mem.drew | apply Mem.alloc | apply Mem.set | apply Mem.allocO | (simp only [World.size_alloc, World.size_setCell, World.size_drew]; rfl) | rfl
    intro w9 M
    try simp only [List.set_cons_zero, List.set_cons_succ] at M
    replace HM := Lib.hid M
    clear M
    have fM := HM.out.facts
    simp only [seeS, talkR_tag, rowR_tag] at fM
    have hE0 : Keeps (OneB (w.heap.size + 1 + 1)) w9 w9.drew := (Keeps.refl _ _).drew
    refine wp_region_plan [(3, 0), (1, 1), (2, 2)] [1] [2, 3, 4, 5] [3, 4, 5] (ClsK (OneB (w.heap.size + 1 + 1)) w9) (by kernel_rfl) (by kernel_rfl) (by kernel_rfl) rfl rfl (ClsK.of hE0) (fun _ _ _ d _ h => by cases d <;> exact h) ?_; simp only [planL, List.getElem?_toArray, List.getElem?_cons_succ, List.getElem?_cons_zero]
    refine plan_exact rfl (fun K hK => quiet_runX (v := ?_) ?_ (hK _ ?_)); rotate_left; (go_simp <;> with_reducible rfl); clear hK K; simp only [nP]
    refine plan_load rfl (fun K hK => quiet_runK (v := ?_) (fun W => ?_) (hK _ ?_)); rotate_left; (go_simp <;> with_reducible rfl); clear hK K; simp only [nP]
    refine plan_does rfl (fun K hK => ?_)
    go_wp2_with fail
    refine ⟨ClsK.of (by repeat (first | assumption | exact Keeps.refl _ _ | refine Keeps.alloc ?_ _ | refine Keeps.setOne ?_ _ _ | refine Keeps.setCell ?_ _ _ (.inl (by first | rfl | exact .inl rfl | exact .inr rfl | omega)) | refine Keeps.drew ?_)), ?_⟩; try simp only [nP]
    refine plan_nil ?_; simp only [tailL, List.filterMap_cons, List.filterMap_nil, List.getElem?_toArray, List.getElem?_cons_succ, List.getElem?_cons_zero]; change wpList _ _ _ (_ :: _ :: _ :: []) _ _
    go_wp2_with fail
    clear fM
    first | apply Mem.call | apply Mem.postD | apply Mem.stop | apply Mem.toUpd | apply Mem.list | apply Mem.code | apply Mem.post | apply Mem.postM
    · with_reducible repeat first | exact HM.out | exact ph | apply pt | apply Mem.drew | apply Mem.alloc | apply Mem.set | apply Mem.allocO | (simp only [World.size_alloc, World.size_setCell, World.size_drew]; rfl) | rfl
    intro w10 M
    try simp only [List.set_cons_zero, List.set_cons_succ] at M
    replace HM := Lib.hid M
    clear M
    obtain ⟨Ahb6, hb6⟩ := HM.out.get (r := cellsR (w.heap.size + 1 + 1) 44 [.int .i64 (T.slot + 1), .slice p8 l8.length c8]) (by with_reducible repeat first | exact ph | apply pt)
    obtain ⟨Ahb7, hb7⟩ := HM.out.get (r := cellsR (w.heap.size + 1 + 1 + 1) 58 [.int .i64 (T.l.length : Int), .int .i64 T.slot, .int .i64 e.kind, .int .i64 e.member, .int .i64 e.number, .string (bs e.text)]) (by with_reducible repeat first | exact ph | apply pt)
    have q6 := hb6.2.reads.1
    have q7 := hb7.2.reads.1
    have hU := (HM.out.pick (r := rowR lnE (.slice p8 l8.length c8) l8) (by with_reducible repeat first | exact ph | apply pt)).upd.row
    refine bodyPost_ret (v := .tuple #[.agg #[.int .i64 (T.slot + 1), .slice p8 l8.length c8], (⟨(T.l.length : Int), T.slot, e⟩ : Ln).v, .bool true, .int .i64 0]) (by simp [results, Tryd.results42, go_sem, q6, q7, Ln.v]) rfl ⟨_, rfl, ?_, hU.2⟩
    rw [show (T.put e).l = l8 from HL8.out]
    exact hU.1
end Go.Proofs.YthhdgjofagdjeaaDoor
end
