/- Texts UB, UC, VA, Said, Kinds, PartC, one behind the other. Conditions: as each says. -/
import Derived.Test.YtcfgnbbiljohjaaGreatDoorPkG
section
/- The document's signs of a text, and its check. No condition. -/
set_option linter.unusedVariables false
set_option linter.unusedSimpArgs false
set_option maxHeartbeats 2000000
set_option maxRecDepth 10000
namespace Go.Proofs.YtcfgnbbiljohjaaGreatDoor
open Go.RowKit Go.Shelf

def sgE : Enc Sg where
  cells x := [.int .i64 (x.at' : Int), .int .i64 (x.size : Int), .int .i64 (x.n : Int), .bool x.broken]
  sz := 4
  len _ := rfl
  one x u hu := by
    simp only [List.mem_cons, List.not_mem_nil, or_false] at hu
    rcases hu with rfl | rfl | rfl | rfl <;> rfl
theorem infoSign : (Tryz.prog.info? 123).map (fun i => (i.zero, i.size, i.bytes)) = some (some (.agg #[.int .i64 0, .int .i64 0, .int .i64 0, .bool false]), 4, 32) := by kernel_rfl
theorem add_sign {F : Nat → Prop} {w0 w : World} {L : List Res} {v : Value} {l : List Sg} (ty : TypeId) (h : Mem F w0 w (rowR sgE v l :: L)) (b c : Nat) (x : Sg) (hb : ∀ o, w.cell? ⟨b, o, none⟩ = (sgE.cells x)[o]?) (hl : l.length < 1000000) :
    ∃ v' w', (Builtin.append_ #[120, 120] ty #[v, .slice (some ⟨b, 0, none⟩) 1 c]).run Tryz.prog w = .ok v' w' ∧ Mem F w0 w' (rowR sgE v' (l ++ [x]) :: L) := by
  obtain ⟨i0, hi, hz0, hz1, hz2⟩ := info_parts infoSign
  exact Mem.rowAdd 120 120 ty 123 i0 _ 32 Tryz.underlying120 Tryz.underlying120 hi hz0 hz1 hz2 rfl h b c x hb (by simp [maxLen]; omega) (by omega)
theorem slice_bs (l : List UInt8) (p : Nat) (h : p ≤ l.length) (W : World) : (Instr.slice 9 (.string (bs l)) (some (.int .i64 (p : Int))) none none).run Tryz.prog W = .ok (.string (bs (l.drop p))) W := by
  rw [run_slice_string_l W _ _ Tryz.underlying9 _ _ (by omega) (by rw [bs_size]; omega), show ((p : Int)).toNat = p from rfl, Lib.extract_from, bs_data]
  rfl
theorem signsF_succ (l : List UInt8) (f p : Nat) (h : p < l.length) : signsF l (f + 1) p = if (sgn (l.drop p)).2 = 0 then ⟨p, 1, 65533, true⟩ :: signsF l f (p + 1) else ⟨p, (sgn (l.drop p)).2, (sgn (l.drop p)).1, false⟩ :: signsF l f (p + (sgn (l.drop p)).2) := by
  rw [signsF, if_pos h]
theorem sgn_le (l : List UInt8) (h : l ≠ []) : (sgn l).2 ≤ l.length := by
  have h1 : 0 < l.length := List.length_pos_iff.2 h
  rw [sgn_N]
  split
  · exact Nat.zero_le _
  · unfold Lib.decodeN
    repeat' split
    all_goals (dsimp only; omega)
theorem Mem.drop' {F : Nat → Prop} {w0 w : World} {x r : Res} {L : List Res} (h : Mem F w0 w (x :: r :: L)) : Mem F w0 w (x :: L) := (h.pick (.there .here)).drop
theorem signs_any (w : World) (l : List UInt8) (hl : l.length ≤ 500000) :
    Calls Tryz.prog 68 #[.string (bs l)] w fun r w' => ∃ v, r = .returned v ∧ Upd NoB w w' (rowR sgE v (signsL l)) := by
  have HM := Lib.hid (Mem.start0 w)
  have hsz := bs_size l
  go_enter Tryz.func68, Tryz.ntmps68
  have fM := HM.out.fa
  go_wp2_with fail
  all_goals clear fM
  go_loopw [3, 4] (fun o i wr => ∃ (p f : Nat) (q : List Sg), i = .int .i64 (p : Int) ∧ Hid (signsL l = q ++ signsF l f p ∧ l.length ≤ p + f ∧ p ≤ l.length ∧ q.length ≤ p) ∧ Hid (Mem NoB w wr [rowR sgE o q])) (fun _ i _ => l.length - (intOf i).toNat)
  case atStart => exact ⟨0, l.length, [], rfl, Lib.hid ⟨rfl, by omega, by omega, by simp⟩, Lib.hid HM.out.nilRow⟩
  case round =>
    obtain ⟨p, f, q, rfl, HP, HM⟩ := hrel
    have hp := HP.out.2.2.1
    by_cases hlt : p < l.length
    · have hlt' : (p : Int) < (l.length : Int) := by omega
      have hsl := slice_bs l p hp
      clear hp
      obtain ⟨f, rfl⟩ : ∃ g, f = g + 1 := ⟨f - 1, by have := HP.out; omega⟩
      have fM := HM.out.fa
      go_wp2_with fail
      all_goals clear fM
      refine (sign_any wr (l.drop p) (by intro h; have := congrArg List.length h; simp at this; omega)).mono ?_
      rintro r w1 ⟨rfl, hE⟩
      replace HM := Lib.hid (HM.out.ext hE)
      clear hE hsl
      have hst := signsF_succ l f p hlt
      by_cases hz : (sgn (l.drop p)).2 = 0
      · rw [if_pos hz] at hst
        rw [hz]
        have HST := Lib.hid hst
        clear hst hz
        have g1 : wrap64 ((p : Int) + 1) = ((p + 1 : Nat) : Int) := by rw [w64 (y := ((p + 1 : Nat) : Int)) (by omega) (by omega) (by omega)]
        have fM := HM.out.fa
        go_wp2_with (at_builtin; refine standing ?_)
        all_goals clear fM
        refine nxt HM fun w2 M => ?_
        clear HM; have HM := M; clear M
        obtain ⟨Ahb, hb⟩ := HM.out.get (r := cellsR w1.heap.size 123 [.int .i64 (p : Int), .int .i64 1, .int .i64 65533, .bool true]) (by with_reducible repeat first | exact ph | apply pt)
        have hbr := hb.2.reads.1
        have hql : q.length < 1000000 := by have := HP.out; omega
        obtain ⟨v3, w3, hr, hm⟩ := add_sign 120 (HM.out.pick (r := rowR sgE u3 q) (by with_reducible repeat first | exact ph | apply pt)) w1.heap.size 1 (⟨p, 1, 65533, true⟩ : Sg) hbr hql
        replace HM := Lib.hid hm.drop'
        clear hm hb hbr hql Ahb
        refine ⟨?_⟩
        refine wpList_append_ran rfl _ _ hr rfl rfl rfl ?_
        clear hr

        have fM := HM.out.fa
        go_wp2_with fail
        all_goals clear fM
        go_roundw
        case rel =>
          refine ⟨p + 1, f, q ++ [(⟨p, 1, 65533, true⟩ : Sg)], by go_num, Lib.hid ⟨?_, by have := HP.out; omega, by have := HP.out; omega, by have := HP.out; simp; omega⟩, HM⟩
          rw [HP.out.1, HST.out, List.append_assoc]
          rfl
        case measure => simp [intOf]; omega
      · rw [if_neg hz] at hst
        obtain ⟨n, k, hnk⟩ : ∃ n k, sgn (l.drop p) = (n, k) := ⟨_, _, rfl⟩
        have hle := sgn_le (l.drop p) (by intro h; have := congrArg List.length h; simp at this; omega)
        rw [List.length_drop] at hle
        rw [hnk] at hst hz hle ⊢
        dsimp only at hst hz hle ⊢
        have HST := Lib.hid hst
        have HK := Lib.hid (show 0 < k ∧ p + k ≤ l.length from ⟨by omega, by omega⟩)
        have hz' : ((k : Int) == 0) = false := by simp; omega
        clear hst hnk hz hle
        have g1 : wrap64 ((p : Int) + (k : Int)) = ((p + k : Nat) : Int) := by have := HK.out; have := HP.out; rw [w64 (y := ((p + k : Nat) : Int)) (by omega) (by omega) (by omega)]
        have fM := HM.out.fa
        go_wp2_with (at_builtin; refine standing ?_)
        all_goals clear fM
        refine nxt HM fun w2 M => ?_
        clear HM; have HM := M; clear M
        obtain ⟨Ahb, hb⟩ := HM.out.get (r := cellsR w1.heap.size 123 [.int .i64 (p : Int), .int .i64 (k : Int), .int .i64 (n : Int), .bool false]) (by with_reducible repeat first | exact ph | apply pt)
        have hbr := hb.2.reads.1
        have hql : q.length < 1000000 := by have := HP.out; omega
        obtain ⟨v3, w3, hr, hm⟩ := add_sign 120 (HM.out.pick (r := rowR sgE u3 q) (by with_reducible repeat first | exact ph | apply pt)) w1.heap.size 1 (⟨p, k, n, false⟩ : Sg) hbr hql
        replace HM := Lib.hid hm.drop'
        clear hm hb hbr hql Ahb
        refine ⟨?_⟩
        refine wpList_append_ran rfl _ _ hr rfl rfl rfl ?_
        clear hr
        have := HK.out
        have fM := HM.out.fa
        go_wp2_with fail
        all_goals clear fM
        go_roundw
        case rel =>
          refine ⟨p + k, f, q ++ [(⟨p, k, n, false⟩ : Sg)], by go_num, Lib.hid ⟨?_, by have := HP.out; omega, by have := HP.out; omega, by have := HP.out; simp; omega⟩, HM⟩
          rw [HP.out.1, HST.out, List.append_assoc]
          rfl
        case measure => simp [intOf]; omega
    · have hend := signsF_end l f p hlt
      have hq : signsL l = q := by rw [HP.out.1, hend, List.append_nil]
      have HQ := Lib.hid hq
      have hlt' : ¬ (p : Int) < (l.length : Int) := by omega
      clear hend hq hp
      have fM := HM.out.fa
      go_wp2_with fail
      all_goals clear fM
      go_ret
      refine ⟨_, rfl, ?_⟩
      rw [HQ.out]
      exact HM.out.upd
end Go.Proofs.YtcfgnbbiljohjaaGreatDoor
end
section
/- The document's check of a text tells what 'chk' tells. Condition: the text has at most 500000 bytes. -/
set_option linter.unusedVariables false
set_option linter.unusedSimpArgs false
set_option maxHeartbeats 2000000
set_option maxRecDepth 10000
namespace Go.Proofs.YtcfgnbbiljohjaaGreatDoor
open Go.RowKit Go.Shelf

theorem chk_3 {l : List UInt8} (h : 200 < l.length) : chk l = 3 := by unfold chk; rw [if_pos h]
theorem chk_130 {l : List UInt8} (h : ¬ 200 < l.length) (k : Nat) (hk : k < (signsL l).length) (hb : (signsL l)[k].broken = true) : chk l = 130 := by
  unfold chk
  rw [if_neg h, if_pos (List.any_eq_true.2 ⟨_, List.getElem_mem hk, hb⟩)]
theorem any_none {α : Type} (l : List α) (p : α → Bool) (h : ∀ j (hj : j < l.length), p l[j] = false) : l.any p = false := by
  rw [List.any_eq_false]
  intro x hx
  obtain ⟨j, hj, rfl⟩ := List.getElem_of_mem hx
  rw [h j hj]; exact Bool.noConfusion
theorem chk_131 {l : List UInt8} (h : ¬ 200 < l.length) (h1 : ∀ j (hj : j < (signsL l).length), (signsL l)[j].broken = false) (k : Nat) (hk : k < (signsL l).length) (hb : (signsL l)[k].bad = true) : chk l = 131 := by
  unfold chk
  rw [if_neg h, any_none (signsL l) (fun x : Sg => x.broken) h1, if_neg Bool.noConfusion, if_pos (List.any_eq_true.2 ⟨_, List.getElem_mem hk, hb⟩)]
theorem chk_rest {l : List UInt8} (h : ¬ 200 < l.length) (h1 : ∀ j (hj : j < (signsL l).length), (signsL l)[j].broken = false) (h2 : ∀ j (hj : j < (signsL l).length), (signsL l)[j].bad = false) : chk l = if blankB l = true then 132 else 0 := by
  unfold chk
  rw [if_neg h, any_none (signsL l) (fun x : Sg => x.broken) h1, if_neg Bool.noConfusion, any_none (signsL l) (fun x : Sg => x.bad) h2, if_neg Bool.noConfusion]
theorem signsF_len (l : List UInt8) : ∀ f p, (signsF l f p).length ≤ f
  | 0, p => by simp [signsF]
  | f + 1, p => by
    rw [signsF]
    split
    · split
      · have := signsF_len l f (p + 1); simp; omega
      · have := signsF_len l f (p + (sgn (l.drop p)).2); simp; omega
    · simp
theorem sg_at {A : Nat → Prop} {w : World} {a : Option Addr} {c : Nat} {q : List Sg} (h : (rowR sgE (.slice a q.length c) q).p A w) (k : Nat) (hk : k < q.length) :
    ∃ g o, a = some ⟨g, o, none⟩ ∧ q.length ≤ c ∧ w.cell? ⟨g, o + k * 4 + 2, none⟩ = some (.int .i64 (q[k].n : Int)) ∧ w.cell? ⟨g, o + k * 4 + 3, none⟩ = some (.bool q[k].broken) := by
  obtain ⟨g, o, cap, hv, h1, h2, h3⟩ := row_cells h (by omega)
  cases hv
  exact ⟨g, o, rfl, h1, h3 k hk 2 (by decide), h3 k hk 3 (by decide)⟩
theorem check03_any (w : World) (l : List UInt8) (hl : l.length ≤ 500000) :
    Calls Tryz.prog 33 #[.string (bs l)] w fun r w' => r = .returned (.int .i64 (chk l : Int)) ∧ Ext w w' := by
  have hsz := bs_size l
  by_cases h0 : 200 < l.length
  · have g0 : (200 : Int) < (l.length : Int) := by omega
    have HQ := Lib.hid (chk_3 h0)
    clear h0 hl
    go_enter Tryz.func33, Tryz.ntmps33
    go_wp2_with fail
    go_ret
    exact ⟨by rw [HQ.out]; rfl, Keeps.refl _ _⟩
  have g0 : ¬ (200 : Int) < (l.length : Int) := by omega
  have H0 := Lib.hid h0
  have HL := Lib.hid hl
  clear h0 hl
  go_enter Tryz.func33, Tryz.ntmps33
  go_wp2_with fail
  refine (signs_any w l HL.out).mono ?_
  rintro r w1 ⟨v, rfl, A, hA, hE, -⟩
  have HE := Lib.hid (show Ext w w1 from hE)
  obtain ⟨q, hq⟩ : ∃ q, signsL l = q := ⟨_, rfl⟩
  rw [hq] at hA
  have hql : q.length ≤ 500000 := by have := signsF_len l l.length 0; have := HL.out; rw [← hq]; unfold signsL; omega
  obtain ⟨a, c, rfl⟩ := row_len hA
  have HA := Lib.hid hA
  have HQQ := Lib.hid hq
  clear hA hE hq
  go_wp2_with fail
  go_loop [4] (fun i => ∃ k : Nat, k ≤ q.length ∧ i = .int .i64 k ∧ Hid (∀ j (hj : j < q.length), j < k → q[j].broken = false)) (fun i => q.length - (intOf i).toNat)
  case atStart => exact ⟨0, Nat.zero_le _, rfl, Lib.hid fun j _ h => absurd h (by omega)⟩
  case round =>
    obtain ⟨k, hk, rfl, HB⟩ := hrel
    by_cases hlt : k < q.length
    · obtain ⟨g, o, rfl, hc, -, d3⟩ := sg_at HA.out k hlt
      have g1 : (k : Int) < (q.length : Int) := by omega
      have g2 : ¬ (k : Int) < 0 := by omega
      clear hc
      cases hb : q[k].broken
      · rw [hb] at d3
        have HBK := Lib.hid hb
        clear hb
        go_wp2_with fail
        go_round
        case rel => exact ⟨k + 1, by omega, by go_num, Lib.hid fun j hj h => by
          by_cases e : j = k
          · subst e; exact HBK.out
          · exact HB.out j hj (by omega)⟩
        case measure => simp [intOf]; omega
      · rw [hb] at d3
        have HQ : Hid (chk l = 130) := Lib.hid (by
          have e := HQQ.out
          subst e
          exact chk_130 H0.out k hlt hb)
        clear hb
        go_wp2_with fail
        go_ret
        exact ⟨by rw [HQ.out]; rfl, HE.out⟩
    · obtain rfl : k = q.length := by omega
      have HB1 : Hid (∀ j (hj : j < q.length), q[j].broken = false) := Lib.hid fun j hj => HB.out j hj hj
      clear hlt hk HB
      go_wp2_with fail
      go_loop [5] (fun i => ∃ k : Nat, k ≤ q.length ∧ i = .int .i64 k ∧ Hid (∀ j (hj : j < q.length), j < k → q[j].bad = false)) (fun i => q.length - (intOf i).toNat)
      case atStart => exact ⟨0, Nat.zero_le _, rfl, Lib.hid fun j _ h => absurd h (by omega)⟩
      case round =>
        obtain ⟨k, hk, rfl, HB⟩ := hrel
        by_cases hlt : k < q.length
        · obtain ⟨g, o, rfl, hc, d2, -⟩ := sg_at HA.out k hlt
          have g1 : (k : Int) < (q.length : Int) := by omega
          have g2 : ¬ (k : Int) < 0 := by omega
          clear hc
          obtain ⟨n, hn⟩ : ∃ n, q[k].n = n := ⟨_, rfl⟩
          rw [hn] at d2
          have HBK : Hid (q[k].bad = (decide (n < 32) || (decide (127 ≤ n) && decide (n ≤ 159)))) := Lib.hid (by unfold Sg.bad; rw [hn])
          clear hn
          by_cases hb : n < 32 ∨ (127 ≤ n ∧ n ≤ 159)
          · have HQ : Hid (chk l = 131) := Lib.hid (by
              have e := HQQ.out
              subst e
              exact chk_131 H0.out HB1.out k hlt (by rw [HBK.out]; simpa using hb))
            rcases hb with hb | ⟨hb1, hb2⟩
            · have i1 : (n : Int) < 32 := by omega
              clear hb
              go_wp2_with fail
              go_ret
              exact ⟨by rw [HQ.out]; rfl, HE.out⟩
            · have i1 : ¬ (n : Int) < 32 := by omega
              have i2 : (127 : Int) ≤ (n : Int) := by omega
              have i3 : (n : Int) ≤ 159 := by omega
              clear hb1 hb2
              go_wp2_with fail
              go_ret
              exact ⟨by rw [HQ.out]; rfl, HE.out⟩
          · have HBN : Hid (q[k].bad = false) := Lib.hid (by rw [HBK.out]; simp; omega)
            have i1 : ¬ (n : Int) < 32 := by omega
            by_cases hb1 : n < 127
            · have i2 : ¬ (127 : Int) ≤ (n : Int) := by omega
              clear hb hb1
              go_wp2_with fail
              go_round
              case rel => exact ⟨k + 1, by omega, by go_num, Lib.hid fun j hj h => by
                by_cases e : j = k
                · subst e; exact HBN.out
                · exact HB.out j hj (by omega)⟩
              case measure => simp [intOf]; omega
            · have i2 : (127 : Int) ≤ (n : Int) := by omega
              have i3 : ¬ (n : Int) ≤ 159 := by omega
              clear hb hb1
              go_wp2_with fail
              go_round
              case rel => exact ⟨k + 1, by omega, by go_num, Lib.hid fun j hj h => by
                by_cases e : j = k
                · subst e; exact HBN.out
                · exact HB.out j hj (by omega)⟩
              case measure => simp [intOf]; omega
        · obtain rfl : k = q.length := by omega
          have HC : Hid (chk l = if blankB l = true then 132 else 0) := Lib.hid (by
            have e := HQQ.out
            subst e
            exact chk_rest H0.out HB1.out fun j hj => HB.out j hj hj)
          clear hlt hk HB HB1
          by_cases hn : l.length = 0
          · obtain rfl : l = [] := List.eq_nil_of_length_eq_zero hn
            have HQ : Hid (chk [] = 132) := Lib.hid (by rw [HC.out]; rfl)
            have g3 : (((([] : List UInt8).length : Nat) : Int) == 0) = true := rfl
            clear hn
            go_wp2_with fail
            go_ret
            exact ⟨by rw [HQ.out]; rfl, HE.out⟩
          · have g3 : ((l.length : Int) == 0) = false := beq_eq_false_iff_ne.2 (by omega)
            have hi0 : ∀ W, (Instr.index 9 (.string (bs l)) (.int .i64 0)).run Tryz.prog W = .ok (.int .u8 ((l.getD 0 0).toNat : Int)) W := fun W => index_bs l 0 (by omega) W
            have hi1 := index_bs l (l.length - 1) (Nat.sub_lt (Nat.pos_of_ne_zero hn) Nat.one_pos)
            have hs1 : wrap64 ((l.length : Int) - 1) = ((l.length - 1 : Nat) : Int) := w64 (x := (l.length : Int) - 1) (y := ((l.length - 1 : Nat) : Int)) (by omega) (by omega) (by have := HL.out; omega)
            have hs2 : ((l.length : Int) - 1) = ((l.length - 1 : Nat) : Int) := by omega
            obtain ⟨x, hx⟩ : ∃ x, l.getD 0 0 = x := ⟨_, rfl⟩
            obtain ⟨y, hy⟩ : ∃ y, l.getD (l.length - 1) 0 = y := ⟨_, rfl⟩
            rw [hx] at hi0
            rw [hy] at hi1
            obtain ⟨m, hm⟩ : ∃ m, l.length - 1 = m := ⟨_, rfl⟩
            rw [hm] at hi1 hs1 hs2
            have HBL : Hid (blankB l = ((x == 32) || (y == 32))) := Lib.hid (by
              unfold blankB
              have e1 : l.isEmpty = false := by cases l; simp at hn; rfl
              have e2 : l.head? = some x := by rw [← hx, List.getD_eq_getElem?_getD, List.head?_eq_getElem?, List.getElem?_eq_getElem (by omega)]; rfl
              have e3 : l.getLast? = some y := by rw [← hy, List.getD_eq_getElem?_getD, List.getLast?_eq_getElem?, List.getElem?_eq_getElem (by omega)]; rfl
              rw [e1, e2, e3]
              rfl)
            have kx : ∀ z : UInt8, (((z.toNat : Int)) == 32) = (z == 32) := fun z => by
              rw [Bool.eq_iff_iff]
              simp only [beq_iff_eq]
              constructor
              · intro h; exact UInt8.toNat_inj.1 (by show z.toNat = 32; omega)
              · intro h; subst h; rfl
            have kx1 := kx x
            have ky1 := kx y
            have HN := Lib.hid hn
            clear hn hx hy hm kx
            cases hxe : x == 32
            · rw [hxe] at kx1 HBL
              cases hye : y == 32
              · rw [hye] at ky1 HBL
                have HQ : Hid (chk l = 0) := Lib.hid (by rw [HC.out, HBL.out]; rfl)
                clear hxe hye
                go_wp2_with fail
                go_ret
                exact ⟨by rw [HQ.out]; rfl, HE.out⟩
              · rw [hye] at ky1 HBL
                have HQ : Hid (chk l = 132) := Lib.hid (by rw [HC.out, HBL.out]; rfl)
                clear hxe hye
                go_wp2_with fail
                go_ret
                exact ⟨by rw [HQ.out]; rfl, HE.out⟩
            · rw [hxe] at kx1 HBL
              have HQ : Hid (chk l = 132) := Lib.hid (by rw [HC.out, HBL.out]; rfl)
              clear hxe
              go_wp2_with fail
              go_ret
              exact ⟨by rw [HQ.out]; rfl, HE.out⟩
end Go.Proofs.YtcfgnbbiljohjaaGreatDoor
end
section
/- The document's question whether an entry may be: what 'enB' tells. Condition: its text has at most 500000 bytes. -/
set_option linter.unusedVariables false
set_option linter.unusedSimpArgs false
set_option maxHeartbeats 2000000
set_option maxRecDepth 10000
namespace Go.Proofs.YtcfgnbbiljohjaaGreatDoor
open Go.RowKit Go.Shelf

theorem entry14_any (w : World) (e : En) (hl : e.text.length ≤ 500000) :
    Calls Tryz.prog 34 #[e.v] w fun r w' => r = .returned (.bool (enB e)) ∧ Ext w w' := by
  obtain ⟨kind, member, number, text⟩ := e
  dsimp only at hl
  have HL := Lib.hid hl
  clear hl
  unfold En.v
  dsimp only
  by_cases m0 : 0 ≤ member
  · by_cases m1 : member < 16
    · have HX : Hid (true = memB member) := Lib.hid (by unfold memB; rw [decide_eq_true m0, decide_eq_true m1]; rfl)
      by_cases k1 : kind = 1
      · subst k1
        rcases none_cases ⟨1, member, number, text⟩ with ⟨h1, h2, h3, h4⟩ | ⟨h1, h2, h3, h4⟩ | ⟨h1, h2, h4⟩ | ⟨h1, h4⟩
        all_goals
          have HQ : Hid (enB ⟨1, member, number, text⟩ = _) := Lib.hid (show enB ⟨1, member, number, text⟩ = noneB ⟨1, member, number, text⟩ from rfl)
          have H4 := Lib.hid h4
          clear h4
          dsimp only at h1
          try dsimp only at h2
          try dsimp only at h3
          clear HX
          try subst h1
          try subst h2
          first
          | (exfalso; omega)
          | (go_enter Tryz.func34, Tryz.ntmps34
             go_wp2_with fail
             go_ret
             exact ⟨by rw [HQ.out, H4.out]; rfl, (Keeps.refl _ _).alloc _⟩)
      have e1 : (kind == 1) = false := by simpa using k1
      by_cases k23 : kind = 2 ∨ kind = 3
      · have HK : Hid (enB ⟨kind, member, number, text⟩ = (memB member && aloneB ⟨kind, member, number, text⟩)) := Lib.hid (by unfold enB; rw [if_neg k1, if_pos k23])
        rcases alone_cases ⟨kind, member, number, text⟩ with ⟨h1, h2, h3⟩ | ⟨h1, h2, h3⟩ | ⟨h1, h3⟩
        all_goals
          have H3 := Lib.hid h3
          clear h3
          dsimp only at h1
          try dsimp only at h2
          try subst h1
          rcases k23 with k2 | k3
          · subst k2
            go_enter Tryz.func34, Tryz.ntmps34
            go_wp2_with fail
            go_ret
            exact ⟨by rw [HK.out, H3.out, ← HX.out]; rfl, (Keeps.refl _ _).alloc _⟩
          · subst k3
            go_enter Tryz.func34, Tryz.ntmps34
            go_wp2_with fail
            go_ret
            exact ⟨by rw [HK.out, H3.out, ← HX.out]; rfl, (Keeps.refl _ _).alloc _⟩
      have k2 : ¬ kind = 2 := fun h => k23 (.inl h)
      have k3 : ¬ kind = 3 := fun h => k23 (.inr h)
      have e2 : (kind == 2) = false := by simpa using k2
      have e3 : (kind == 3) = false := by simpa using k3
      by_cases k4 : kind = 4
      case neg =>
        have e4 : (kind == 4) = false := by simpa using k4
        have HK : Hid (enB ⟨kind, member, number, text⟩ = false) := Lib.hid (by unfold enB; rw [if_neg k1, if_neg k23, if_neg k4])
        clear k1 k2 k3 k4 k23 HX
        go_enter Tryz.func34, Tryz.ntmps34
        go_wp2_with fail
        go_ret
        exact ⟨by rw [HK.out]; rfl, (Keeps.refl _ _).alloc _⟩
      have hse : enB ⟨kind, member, number, text⟩ = (decide (1 ≤ number) && decide (number ≤ 2147483647) && (chk text == 0)) := by
        unfold enB; rw [if_neg k1, if_neg k23, if_pos k4]; unfold sayB; rw [← HX.out]; simp
      have HK := Lib.hid hse
      clear hse k1 k2 k3 k23 HX
      subst k4
      by_cases n1 : 1 ≤ number
      case neg =>
        have N := Lib.hid n1
        go_enter Tryz.func34, Tryz.ntmps34
        go_wp2_with fail
        go_ret
        exact ⟨by rw [HK.out, decide_eq_false (p := 1 ≤ number) (by have := N.out; omega)]; rfl, (Keeps.refl _ _).alloc _⟩
      by_cases n2 : number ≤ 2147483647
      case neg =>
        have N := Lib.hid n2
        go_enter Tryz.func34, Tryz.ntmps34
        go_wp2_with fail
        go_ret
        exact ⟨by rw [HK.out, decide_eq_false (p := number ≤ 2147483647) (by have := N.out; omega)]; simp, (Keeps.refl _ _).alloc _⟩
      have HN := Lib.hid (And.intro n1 n2)
      have HM := Lib.hid (Mem.start0 w)
      go_enter Tryz.func34, Tryz.ntmps34
      have fM := HM.out.fa
      go_wp2_with fail
      all_goals clear fM
      refine nxt HM fun w0 M => ?_
      clear HM; have HM := M; clear M
      refine (check03_any w0 text HL.out).mono ?_
      rintro r w1 ⟨rfl, hE⟩
      replace HM := Lib.hid (HM.out.ext hE)
      clear hE
      have fM := HM.out.fa
      go_wp2_with fail
      all_goals clear fM
      go_ret
      refine ⟨?_, HM.out.extTo⟩
      rw [HK.out, decide_eq_true HN.out.1, decide_eq_true HN.out.2]
      have : ((chk text : Int) == 0) = (chk text == 0) := by
        rw [Bool.eq_iff_iff]; simp
      simp [this]
    · have HX : Hid (false = memB member) := Lib.hid (by unfold memB; rw [decide_eq_false m1]; simp)
      by_cases k1 : kind = 1
      · subst k1
        rcases none_cases ⟨1, member, number, text⟩ with ⟨h1, h2, h3, h4⟩ | ⟨h1, h2, h3, h4⟩ | ⟨h1, h2, h4⟩ | ⟨h1, h4⟩
        all_goals
          have HQ : Hid (enB ⟨1, member, number, text⟩ = _) := Lib.hid (show enB ⟨1, member, number, text⟩ = noneB ⟨1, member, number, text⟩ from rfl)
          have H4 := Lib.hid h4
          clear h4
          dsimp only at h1
          try dsimp only at h2
          try dsimp only at h3
          clear HX
          try subst h1
          try subst h2
          first
          | (exfalso; omega)
          | (go_enter Tryz.func34, Tryz.ntmps34
             go_wp2_with fail
             go_ret
             exact ⟨by rw [HQ.out, H4.out]; rfl, (Keeps.refl _ _).alloc _⟩)
      have e1 : (kind == 1) = false := by simpa using k1
      by_cases k23 : kind = 2 ∨ kind = 3
      · have HK : Hid (enB ⟨kind, member, number, text⟩ = (memB member && aloneB ⟨kind, member, number, text⟩)) := Lib.hid (by unfold enB; rw [if_neg k1, if_pos k23])
        rcases alone_cases ⟨kind, member, number, text⟩ with ⟨h1, h2, h3⟩ | ⟨h1, h2, h3⟩ | ⟨h1, h3⟩
        all_goals
          have H3 := Lib.hid h3
          clear h3
          dsimp only at h1
          try dsimp only at h2
          try subst h1
          rcases k23 with k2 | k3
          · subst k2
            go_enter Tryz.func34, Tryz.ntmps34
            go_wp2_with fail
            go_ret
            exact ⟨by rw [HK.out, H3.out, ← HX.out]; rfl, (Keeps.refl _ _).alloc _⟩
          · subst k3
            go_enter Tryz.func34, Tryz.ntmps34
            go_wp2_with fail
            go_ret
            exact ⟨by rw [HK.out, H3.out, ← HX.out]; rfl, (Keeps.refl _ _).alloc _⟩
      have k2 : ¬ kind = 2 := fun h => k23 (.inl h)
      have k3 : ¬ kind = 3 := fun h => k23 (.inr h)
      have e2 : (kind == 2) = false := by simpa using k2
      have e3 : (kind == 3) = false := by simpa using k3
      by_cases k4 : kind = 4
      case neg =>
        have e4 : (kind == 4) = false := by simpa using k4
        have HK : Hid (enB ⟨kind, member, number, text⟩ = false) := Lib.hid (by unfold enB; rw [if_neg k1, if_neg k23, if_neg k4])
        clear k1 k2 k3 k4 k23 HX
        go_enter Tryz.func34, Tryz.ntmps34
        go_wp2_with fail
        go_ret
        exact ⟨by rw [HK.out]; rfl, (Keeps.refl _ _).alloc _⟩
      have HK : Hid (enB ⟨kind, member, number, text⟩ = false) := Lib.hid (by unfold enB; rw [if_neg k1, if_neg k23, if_pos k4]; unfold sayB; rw [← HX.out]; simp)
      clear k1 k2 k3 k23 HX
      subst k4
      go_enter Tryz.func34, Tryz.ntmps34
      go_wp2_with fail
      go_ret
      exact ⟨by rw [HK.out]; rfl, (Keeps.refl _ _).alloc _⟩
  · have HX : Hid (false = memB member) := Lib.hid (by unfold memB; rw [decide_eq_false m0]; simp)
    by_cases k1 : kind = 1
    · subst k1
      rcases none_cases ⟨1, member, number, text⟩ with ⟨h1, h2, h3, h4⟩ | ⟨h1, h2, h3, h4⟩ | ⟨h1, h2, h4⟩ | ⟨h1, h4⟩
      all_goals
        have HQ : Hid (enB ⟨1, member, number, text⟩ = _) := Lib.hid (show enB ⟨1, member, number, text⟩ = noneB ⟨1, member, number, text⟩ from rfl)
        have H4 := Lib.hid h4
        clear h4
        dsimp only at h1
        try dsimp only at h2
        try dsimp only at h3
        clear HX
        try subst h1
        try subst h2
        first
        | (exfalso; omega)
        | (go_enter Tryz.func34, Tryz.ntmps34
           go_wp2_with fail
           go_ret
           exact ⟨by rw [HQ.out, H4.out]; rfl, (Keeps.refl _ _).alloc _⟩)
    have e1 : (kind == 1) = false := by simpa using k1
    by_cases k23 : kind = 2 ∨ kind = 3
    · have HK : Hid (enB ⟨kind, member, number, text⟩ = (memB member && aloneB ⟨kind, member, number, text⟩)) := Lib.hid (by unfold enB; rw [if_neg k1, if_pos k23])
      rcases alone_cases ⟨kind, member, number, text⟩ with ⟨h1, h2, h3⟩ | ⟨h1, h2, h3⟩ | ⟨h1, h3⟩
      all_goals
        have H3 := Lib.hid h3
        clear h3
        dsimp only at h1
        try dsimp only at h2
        try subst h1
        rcases k23 with k2 | k3
        · subst k2
          go_enter Tryz.func34, Tryz.ntmps34
          go_wp2_with fail
          go_ret
          exact ⟨by rw [HK.out, H3.out, ← HX.out]; rfl, (Keeps.refl _ _).alloc _⟩
        · subst k3
          go_enter Tryz.func34, Tryz.ntmps34
          go_wp2_with fail
          go_ret
          exact ⟨by rw [HK.out, H3.out, ← HX.out]; rfl, (Keeps.refl _ _).alloc _⟩
    have k2 : ¬ kind = 2 := fun h => k23 (.inl h)
    have k3 : ¬ kind = 3 := fun h => k23 (.inr h)
    have e2 : (kind == 2) = false := by simpa using k2
    have e3 : (kind == 3) = false := by simpa using k3
    by_cases k4 : kind = 4
    case neg =>
      have e4 : (kind == 4) = false := by simpa using k4
      have HK : Hid (enB ⟨kind, member, number, text⟩ = false) := Lib.hid (by unfold enB; rw [if_neg k1, if_neg k23, if_neg k4])
      clear k1 k2 k3 k4 k23 HX
      go_enter Tryz.func34, Tryz.ntmps34
      go_wp2_with fail
      go_ret
      exact ⟨by rw [HK.out]; rfl, (Keeps.refl _ _).alloc _⟩
    have HK : Hid (enB ⟨kind, member, number, text⟩ = false) := Lib.hid (by unfold enB; rw [if_neg k1, if_neg k23, if_pos k4]; unfold sayB; rw [← HX.out]; simp)
    clear k1 k2 k3 k23 HX
    subst k4
    go_enter Tryz.func34, Tryz.ntmps34
    go_wp2_with fail
    go_ret
    exact ⟨by rw [HK.out]; rfl, (Keeps.refl _ _).alloc _⟩
end Go.Proofs.YtcfgnbbiljohjaaGreatDoor
end
section
/- What is said: its parts, whether it may be, its body, and what a body says. No program is named here. -/
set_option linter.unusedVariables false
set_option linter.unusedSimpArgs false
set_option maxHeartbeats 1000000
namespace Go.Proofs.YtcfgnbbiljohjaaGreatDoor
open Go.RowKit

structure Sd where
  kind : Int
  member : Int
  number : Int
  index : Int
  is : Bool
  text : List UInt8
  token : List UInt8
  e : En
deriving DecidableEq
def En0 : En := ⟨0, 0, 0, []⟩
def Sd.of (k : Int) : Sd := ⟨k, 0, 0, 0, false, [], [], En0⟩
abbrev Sd.cells (s : Sd) : List Value := [.int .i64 s.kind, .int .i64 s.member, .int .i64 s.number, .int .i64 s.index, .bool s.is, .string (bs s.text), .string (bs s.token), .int .i64 s.e.kind, .int .i64 s.e.member, .int .i64 s.e.number, .string (bs s.e.text)]
def Sd.v (s : Sd) : Value := .agg s.cells.toArray
def mostN : Int := 2147483647
inductive Part
  | member | number (least : Int) | index | is | said | token | entry
deriving DecidableEq
def partsOf (k : Int) : Option (List Part) :=
  if k = 1 then some [.member, .token] else if k = 2 then some [] else if k = 3 then some [] else if k = 4 then some [.number 1, .said] else if k = 5 then some [.index] else if k = 6 then some []
  else if k = 7 then some [.is] else if k = 8 then some [.index, .token] else if k = 9 then some [.index, .token, .entry] else if k = 10 then some [.member, .is] else if k = 11 then some [.member, .is]
  else if k = 12 then some [.number 0] else none
def Part.clear : Part → Sd → Sd
  | .member, s => { s with member := 0 }
  | .number _, s => { s with number := 0 }
  | .index, s => { s with index := 0 }
  | .is, s => { s with is := false }
  | .said, s => { s with text := [] }
  | .token, s => { s with token := [] }
  | .entry, s => { s with e := En0 }
def Part.may : Part → Sd → Bool
  | .member, s => decide (0 ≤ s.member ∧ s.member ≤ 15)
  | .number least, s => decide (least ≤ s.number ∧ s.number ≤ 2147483647)
  | .index, s => decide (0 ≤ s.index ∧ s.index ≤ 2147483647)
  | .is, _ => true
  | .said, s => chk s.text == 0
  | .token, s => decide (s.token.length ≤ 200)
  | .entry, s => decide (s.e.kind ≠ 1) && enB s.e
def Part.lay : Part → Sd → List UInt8
  | .member, s => numL s.member.toNat
  | .number _, s => numL s.number.toNat
  | .index, s => numL s.index.toNat
  | .is, s => truL s.is
  | .said, s => txtL s.text
  | .token, s => txtL s.token
  | .entry, s => numL s.e.kind.toNat ++ numL s.e.member.toNat ++ (if s.e.kind = 4 then numL s.e.number.toNat ++ txtL s.e.text else [])
def Part.take : Part → Rdr → Sd → Rdr × Sd
  | .member, r, s => ((r.num 15).1, { s with member := (r.num 15).2.1 })
  | .number _, r, s => ((r.num 2147483647).1, { s with number := (r.num 2147483647).2.1 })
  | .index, r, s => ((r.num 2147483647).1, { s with index := (r.num 2147483647).2.1 })
  | .is, r, s => (r.tru.1, { s with is := r.tru.2.1 })
  | .said, r, s => ((r.txt 200).1, { s with text := (r.txt 200).2.1 })
  | .token, r, s => ((r.txt 200).1, { s with token := (r.txt 200).2.1 })
  | .entry, r, s =>
    let a := r.num 4
    let b := a.1.num 15
    if a.2.1 = 4 then
      let c := b.1.num 2147483647
      let d := c.1.txt 200
      (d.1, { s with e := ⟨a.2.1, b.2.1, c.2.1, d.2.1⟩ })
    else (b.1, { s with e := ⟨a.2.1, b.2.1, s.e.number, s.e.text⟩ })
/-- may it be said? -/
def sdB (s : Sd) : Bool := match partsOf s.kind with
  | none => false
  | some ps => decide (ps.foldl (fun x p => p.clear x) s = Sd.of s.kind) && ps.all fun p => p.may s
/-- its body -/
def bodyL (s : Sd) : List UInt8 := numL s.kind.toNat ++ (((partsOf s.kind).getD []).map fun p => p.lay s).flatten
/-- the parts that are taken off a reader -/
def takeAll (ps : List Part) (r : Rdr) (s : Sd) : Rdr × Sd := ps.foldl (fun x p => p.take x.1 x.2) (r, s)
/-- what a body says -/
def parseL (b : List UInt8) : Sd × Int :=
  let a := (⟨b, 0⟩ : Rdr).num 12
  let x := takeAll ((partsOf a.2.1).getD []) a.1 (Sd.of a.2.1)
  if a.2.2 = 0 ∧ x.1.e = 0 ∧ x.1.b = [] ∧ sdB x.2 = true then (x.2, 0) else (Sd.of 0, 340)

/-! errors stay -/
theorem Rdr.num_err {r : Rdr} (g : Int) (h : r.e ≠ 0) : r.num g = (r, 0, r.e) := by unfold Rdr.num; rw [if_pos h]
theorem Rdr.num_e (r : Rdr) (g : Int) (hg : 0 ≤ g) (h : (r.num g).1.e = 0) : r.e = 0 ∧ (r.num g).2.2 = 0 := by
  unfold Rdr.num at h ⊢
  by_cases he : r.e ≠ 0
  · rw [if_pos he] at h; exact absurd h he
  · rw [if_neg he] at h ⊢
    rw [if_neg (by omega)] at h ⊢
    split at h
    · rename_i hk; rw [if_pos hk]; exact ⟨by simpa using he, rfl⟩
    · exact absurd h (by decide)
theorem Rdr.num_e' (r : Rdr) (g : Int) (hg : 0 ≤ g) : (r.num g).2.2 = (r.num g).1.e := by
  unfold Rdr.num
  split
  · rfl
  · rw [if_neg (by omega)]; split <;> rfl
theorem Rdr.num_lt (r : Rdr) (g : Int) (hg : 0 ≤ g) : ((r.num g).2.1 : Int) ≤ g := by
  unfold Rdr.num
  split
  · simpa using hg
  · rw [if_neg (by omega)]
    split
    · rename_i h; exact h.2
    · simpa using hg
theorem Rdr.num_len (r : Rdr) (g : Int) : (r.num g).1.b.length ≤ r.b.length := by
  unfold Rdr.num
  split
  · exact Nat.le_refl _
  · split
    · exact Nat.le_refl _
    · split
      · dsimp only; rw [List.length_drop]; omega
      · exact Nat.zero_le _
theorem Rdr.txt_e' (r : Rdr) (g : Int) (hg : 0 ≤ g) : (r.txt g).2.2 = (r.txt g).1.e := by
  unfold Rdr.txt
  split
  · exact Rdr.num_e' r g hg
  · split <;> rfl
theorem Rdr.txt_len (r : Rdr) (g : Int) : (r.txt g).1.b.length ≤ r.b.length := by
  have := r.num_len g
  unfold Rdr.txt
  split
  · exact this
  · split
    · dsimp only; rw [List.length_drop]; omega
    · exact Nat.zero_le _
theorem Rdr.txt_lt (r : Rdr) (g : Int) (hg : 0 ≤ g) : ((r.txt g).2.1.length : Int) ≤ g := by
  have := r.num_lt g hg
  unfold Rdr.txt
  split
  · simpa using hg
  · split
    · dsimp only; rw [List.length_take]; omega
    · simpa using hg
theorem Rdr.tru_e' (r : Rdr) : r.tru.2.2 = r.tru.1.e := by
  unfold Rdr.tru
  split
  · rfl
  · split
    · rfl
    · split <;> rfl
theorem Rdr.tru_len (r : Rdr) : r.tru.1.b.length ≤ r.b.length := by
  unfold Rdr.tru
  split
  · exact Nat.le_refl _
  · split
    · exact Nat.zero_le _
    · rename_i c l h
      split
      · rw [h]; simp
      · exact Nat.zero_le _
theorem Part.take_len (p : Part) (r : Rdr) (s : Sd) : (p.take r s).1.b.length ≤ r.b.length := by
  cases p <;> unfold Part.take
  · exact r.num_len _
  · exact r.num_len _
  · exact r.num_len _
  · exact r.tru_len
  · exact r.txt_len _
  · exact r.txt_len _
  · dsimp only
    have h1 := r.num_len 4
    have h2 := (r.num 4).1.num_len 15
    have h3 := ((r.num 4).1.num 15).1.num_len 2147483647
    have h4 := (((r.num 4).1.num 15).1.num 2147483647).1.txt_len 200
    split
    · dsimp only; omega
    · dsimp only; omega
theorem Rdr.num_sticky {r : Rdr} (g : Int) (hg : 0 ≤ g) (h : r.e ≠ 0) : (r.num g).1.e ≠ 0 := by rw [r.num_err g h]; exact h
theorem Rdr.txt_sticky {r : Rdr} (g : Int) (h : r.e ≠ 0) : (r.txt g).1.e ≠ 0 := by
  unfold Rdr.txt
  rw [r.num_err g h]
  rw [if_pos h]; exact h
theorem Rdr.tru_sticky {r : Rdr} (h : r.e ≠ 0) : r.tru.1.e ≠ 0 := by unfold Rdr.tru; rw [if_pos h]; exact h
theorem Part.take_sticky (p : Part) {r : Rdr} (s : Sd) (h : r.e ≠ 0) : (p.take r s).1.e ≠ 0 := by
  cases p <;> unfold Part.take
  · exact Rdr.num_sticky _ (by decide) h
  · exact Rdr.num_sticky _ (by decide) h
  · exact Rdr.num_sticky _ (by decide) h
  · exact Rdr.tru_sticky h
  · exact Rdr.txt_sticky _ h
  · exact Rdr.txt_sticky _ h
  · dsimp only
    have h1 := Rdr.num_sticky 4 (by decide) h
    have h2 := Rdr.num_sticky 15 (by decide) h1
    have h3 := Rdr.num_sticky 2147483647 (by decide) h2
    have h4 := Rdr.txt_sticky 200 h3
    split
    · exact h4
    · exact h2
theorem takeAll_sticky : ∀ (ps : List Part) {r : Rdr} (s : Sd), r.e ≠ 0 → (takeAll ps r s).1.e ≠ 0
  | [], r, s, h => h
  | p :: ps, r, s, h => takeAll_sticky ps (p.take r s).2 (p.take_sticky s h)
theorem takeAll_cons (p : Part) (ps : List Part) (r : Rdr) (s : Sd) : takeAll (p :: ps) r s = takeAll ps (p.take r s).1 (p.take r s).2 := rfl
end Go.Proofs.YtcfgnbbiljohjaaGreatDoor
end
section
/- The program's table of kinds: what parts each names. No condition. -/
set_option linter.unusedVariables false
set_option linter.unusedSimpArgs false
set_option maxHeartbeats 2000000
set_option maxRecDepth 10000
namespace Go.Proofs.YtcfgnbbiljohjaaGreatDoor
open Go.RowKit

def fnV (f : Nat) : Value := .func (.func f) #[] #[]
/-- a part's four functions; k: where a number's least one lies -/
def partCells (k : Nat) : Part → List Value
  | .member => [fnV 85, fnV 86, fnV 88, fnV 89]
  | .number _ => [fnV 96, .func (.func 97) #[] #[.pointer (some ⟨k, 0, none⟩)], fnV 99, fnV 100]
  | .index => [fnV 106, fnV 107, fnV 108, fnV 109]
  | .is => [fnV 110, fnV 111, fnV 112, fnV 114]
  | .said => [fnV 101, fnV 102, fnV 104, fnV 105]
  | .token => [fnV 90, fnV 91, fnV 92, fnV 94]
  | .entry => [fnV 116, fnV 117, fnV 119, fnV 120]
def partV (k : Nat) (p : Part) : Value := .agg (partCells k p).toArray
theorem made_member (w : World) : Calls Tryz.prog 59 #[] w fun e w' => e = .returned (partV 0 .member) ∧ Ext w w' := by
  have HM := Lib.hid (Mem.start0 w)
  go_enter Tryz.func59, Tryz.ntmps59
  have fM := HM.out.fa
  go_wp2_with fail
  all_goals clear fM
  refine nxt HM fun w1 M => ?_
  clear HM; have HM := M; clear M
  obtain ⟨Ahb, hb⟩ := HM.out.get (r := cellsR w.heap.size 70 [.func (.func 85) #[] #[], .func (.func 86) #[] #[], .func (.func 88) #[] #[], .func (.func 89) #[] #[]]) (by with_reducible repeat first | exact ph | apply pt)
  have hc := hb.2.reads.1
  clear hb
  refine bodyPost_ret (v := partV 0 .member) (by simp [results, Tryz.results59, go_sem, hc, partCells, partV, fnV]) rfl ⟨rfl, HM.out.extTo⟩
theorem made_token (w : World) : Calls Tryz.prog 60 #[] w fun e w' => e = .returned (partV 0 .token) ∧ Ext w w' := by
  have HM := Lib.hid (Mem.start0 w)
  go_enter Tryz.func60, Tryz.ntmps60
  have fM := HM.out.fa
  go_wp2_with fail
  all_goals clear fM
  refine nxt HM fun w1 M => ?_
  clear HM; have HM := M; clear M
  obtain ⟨Ahb, hb⟩ := HM.out.get (r := cellsR w.heap.size 70 [.func (.func 90) #[] #[], .func (.func 91) #[] #[], .func (.func 92) #[] #[], .func (.func 94) #[] #[]]) (by with_reducible repeat first | exact ph | apply pt)
  have hc := hb.2.reads.1
  clear hb
  refine bodyPost_ret (v := partV 0 .token) (by simp [results, Tryz.results60, go_sem, hc, partCells, partV, fnV]) rfl ⟨rfl, HM.out.extTo⟩
theorem made_said (w : World) : Calls Tryz.prog 62 #[] w fun e w' => e = .returned (partV 0 .said) ∧ Ext w w' := by
  have HM := Lib.hid (Mem.start0 w)
  go_enter Tryz.func62, Tryz.ntmps62
  have fM := HM.out.fa
  go_wp2_with fail
  all_goals clear fM
  refine nxt HM fun w1 M => ?_
  clear HM; have HM := M; clear M
  obtain ⟨Ahb, hb⟩ := HM.out.get (r := cellsR w.heap.size 70 [.func (.func 101) #[] #[], .func (.func 102) #[] #[], .func (.func 104) #[] #[], .func (.func 105) #[] #[]]) (by with_reducible repeat first | exact ph | apply pt)
  have hc := hb.2.reads.1
  clear hb
  refine bodyPost_ret (v := partV 0 .said) (by simp [results, Tryz.results62, go_sem, hc, partCells, partV, fnV]) rfl ⟨rfl, HM.out.extTo⟩
theorem made_index (w : World) : Calls Tryz.prog 63 #[] w fun e w' => e = .returned (partV 0 .index) ∧ Ext w w' := by
  have HM := Lib.hid (Mem.start0 w)
  go_enter Tryz.func63, Tryz.ntmps63
  have fM := HM.out.fa
  go_wp2_with fail
  all_goals clear fM
  refine nxt HM fun w1 M => ?_
  clear HM; have HM := M; clear M
  obtain ⟨Ahb, hb⟩ := HM.out.get (r := cellsR w.heap.size 70 [.func (.func 106) #[] #[], .func (.func 107) #[] #[], .func (.func 108) #[] #[], .func (.func 109) #[] #[]]) (by with_reducible repeat first | exact ph | apply pt)
  have hc := hb.2.reads.1
  clear hb
  refine bodyPost_ret (v := partV 0 .index) (by simp [results, Tryz.results63, go_sem, hc, partCells, partV, fnV]) rfl ⟨rfl, HM.out.extTo⟩
theorem made_is (w : World) : Calls Tryz.prog 64 #[] w fun e w' => e = .returned (partV 0 .is) ∧ Ext w w' := by
  have HM := Lib.hid (Mem.start0 w)
  go_enter Tryz.func64, Tryz.ntmps64
  have fM := HM.out.fa
  go_wp2_with fail
  all_goals clear fM
  refine nxt HM fun w1 M => ?_
  clear HM; have HM := M; clear M
  obtain ⟨Ahb, hb⟩ := HM.out.get (r := cellsR w.heap.size 70 [.func (.func 110) #[] #[], .func (.func 111) #[] #[], .func (.func 112) #[] #[], .func (.func 114) #[] #[]]) (by with_reducible repeat first | exact ph | apply pt)
  have hc := hb.2.reads.1
  clear hb
  refine bodyPost_ret (v := partV 0 .is) (by simp [results, Tryz.results64, go_sem, hc, partCells, partV, fnV]) rfl ⟨rfl, HM.out.extTo⟩
theorem made_entry (w : World) : Calls Tryz.prog 65 #[] w fun e w' => e = .returned (partV 0 .entry) ∧ Ext w w' := by
  have HM := Lib.hid (Mem.start0 w)
  go_enter Tryz.func65, Tryz.ntmps65
  have fM := HM.out.fa
  go_wp2_with fail
  all_goals clear fM
  refine nxt HM fun w1 M => ?_
  clear HM; have HM := M; clear M
  obtain ⟨Ahb, hb⟩ := HM.out.get (r := cellsR w.heap.size 70 [.func (.func 116) #[] #[], .func (.func 117) #[] #[], .func (.func 119) #[] #[], .func (.func 120) #[] #[]]) (by with_reducible repeat first | exact ph | apply pt)
  have hc := hb.2.reads.1
  clear hb
  refine bodyPost_ret (v := partV 0 .entry) (by simp [results, Tryz.results65, go_sem, hc, partCells, partV, fnV]) rfl ⟨rfl, HM.out.extTo⟩
theorem made_number (w : World) (least : Int) : Calls Tryz.prog 61 #[.int .i64 least] w fun e w' => ∃ k, e = .returned (partV k (.number least)) ∧ Upd NoB w w' (cellsR k 2 [.int .i64 least]) := by
  have HM := Lib.hid (Mem.start0 w)
  go_enter Tryz.func61, Tryz.ntmps61
  have fM := HM.out.fa
  go_wp2_with fail
  all_goals clear fM
  refine nxt HM fun w1 M => ?_
  clear HM; have HM := M; clear M
  obtain ⟨Ahb, hb⟩ := HM.out.get (r := cellsR (w.heap.size + 1) 70 [.func (.func 96) #[] #[], .func (.func 97) #[] #[.pointer (some ⟨w.heap.size, 0, none⟩)], .func (.func 99) #[] #[], .func (.func 100) #[] #[]]) (by with_reducible repeat first | exact ph | apply pt)
  have hc := hb.2.reads.1
  clear hb
  refine bodyPost_ret (v := partV w.heap.size (.number least)) (by simp [results, Tryz.results61, go_sem, hc, partCells, partV, fnV]) rfl ⟨_, rfl, (HM.out.pick (r := cellsR w.heap.size 2 [.int .i64 least]) (by with_reducible repeat first | exact ph | apply pt)).upd⟩
theorem of_any (w : World) (v : Value) (a : Option Addr) (n c : Nat) (hv : v = .slice a n c) : Calls Tryz.prog 58 #[v] w fun e w' => e = .returned v ∧ w' = w := by
  subst hv
  go_enter Tryz.func58, Tryz.ntmps58
  go_wp2_with fail
  go_ret
  exact ⟨rfl, rfl⟩
/-- the map of kinds under way -/
def mapR (m : Nat) (D : List (Int × Value)) : Res := anyR (fun F w => (∀ k, F k ↔ k = m) ∧ MapI w m D) (fun h hk hs => ⟨h.1, h.2.keeps hk (hs _ ((h.1 _).2 rfl))⟩) (fun h k hk => by rw [(h.1 k).1 hk]; exact h.2.lt)
theorem Mem.mapNew {F : Nat → Prop} {w0 w : World} {L : List Res} (h : Mem F w0 w L) : Mem F w0 (w.alloc (.map #[] 0)) (mapR w.heap.size [] :: L) :=
  h.new (r := mapR w.heap.size []) (G := fun k => k = w.heap.size) ((Keeps.refl _ _).alloc _) ⟨fun _ => Iff.rfl, mapi_new w⟩ (fun k hk => by omega)
theorem Mem.mapPut {F : Nat → Prop} {w0 w : World} {L : List Res} {m : Nat} {D : List (Int × Value)} (h : Mem F w0 w (mapR m D :: L)) {n : Int} (hn : I64 n) (hne : ∀ p ∈ D, p.1 ≠ n) (v : Value) :
    ∃ w', (Instr.mapUpdate 64 (.map (some m)) (.int .i64 n) v).run Tryz.prog w = .ok () w' ∧ Mem F w0 w' (mapR m (D ++ [(n, v)]) :: L) := by
  obtain ⟨A, hA, hS⟩ := h.step
  obtain ⟨w', h1, h2, h3⟩ := hA.2.put Tryz.underlying64 Tryz.underlying22 hn hne v
  exact ⟨w', h1, hS _ _ ⟨A, ⟨hA.1, h2⟩, h3.mono fun k _ hk => (hA.1 k).2 hk, fun k hk => .inl hk⟩⟩
def kindsE (q1 q4 q5 q7 q8 q9 q10 q11 q12 : Nat) : List (Int × Value) := [(1, .slice (some ⟨q1, 0, none⟩) 2 2), (2, .slice none 0 0), (3, .slice none 0 0), (4, .slice (some ⟨q4, 0, none⟩) 2 2), (5, .slice (some ⟨q5, 0, none⟩) 1 1), (6, .slice none 0 0), (7, .slice (some ⟨q7, 0, none⟩) 1 1), (8, .slice (some ⟨q8, 0, none⟩) 2 2), (9, .slice (some ⟨q9, 0, none⟩) 3 3), (10, .slice (some ⟨q10, 0, none⟩) 2 2), (11, .slice (some ⟨q11, 0, none⟩) 2 2), (12, .slice (some ⟨q12, 0, none⟩) 1 1)]
abbrev kindsL (m q1 q4 q5 q7 q8 q9 q10 q11 q12 k1 k0 : Nat) : List Res := [mapR m [(1, .slice (some ⟨q1, 0, none⟩) 2 2), (2, .slice none 0 0), (3, .slice none 0 0), (4, .slice (some ⟨q4, 0, none⟩) 2 2), (5, .slice (some ⟨q5, 0, none⟩) 1 1), (6, .slice none 0 0), (7, .slice (some ⟨q7, 0, none⟩) 1 1), (8, .slice (some ⟨q8, 0, none⟩) 2 2), (9, .slice (some ⟨q9, 0, none⟩) 3 3), (10, .slice (some ⟨q10, 0, none⟩) 2 2), (11, .slice (some ⟨q11, 0, none⟩) 2 2), (12, .slice (some ⟨q12, 0, none⟩) 1 1)], cellsR q1 70 [.func (.func 85) #[] #[], .func (.func 86) #[] #[], .func (.func 88) #[] #[], .func (.func 89) #[] #[], .func (.func 90) #[] #[], .func (.func 91) #[] #[], .func (.func 92) #[] #[], .func (.func 94) #[] #[]], cellsR q4 70 [.func (.func 96) #[] #[], .func (.func 97) #[] #[.pointer (some ⟨k1, 0, none⟩)], .func (.func 99) #[] #[], .func (.func 100) #[] #[], .func (.func 101) #[] #[], .func (.func 102) #[] #[], .func (.func 104) #[] #[], .func (.func 105) #[] #[]], cellsR q5 70 [.func (.func 106) #[] #[], .func (.func 107) #[] #[], .func (.func 108) #[] #[], .func (.func 109) #[] #[]], cellsR q7 70 [.func (.func 110) #[] #[], .func (.func 111) #[] #[], .func (.func 112) #[] #[], .func (.func 114) #[] #[]], cellsR q8 70 [.func (.func 106) #[] #[], .func (.func 107) #[] #[], .func (.func 108) #[] #[], .func (.func 109) #[] #[], .func (.func 90) #[] #[], .func (.func 91) #[] #[], .func (.func 92) #[] #[], .func (.func 94) #[] #[]], cellsR q9 70 [.func (.func 106) #[] #[], .func (.func 107) #[] #[], .func (.func 108) #[] #[], .func (.func 109) #[] #[], .func (.func 90) #[] #[], .func (.func 91) #[] #[], .func (.func 92) #[] #[], .func (.func 94) #[] #[], .func (.func 116) #[] #[], .func (.func 117) #[] #[], .func (.func 119) #[] #[], .func (.func 120) #[] #[]], cellsR q10 70 [.func (.func 85) #[] #[], .func (.func 86) #[] #[], .func (.func 88) #[] #[], .func (.func 89) #[] #[], .func (.func 110) #[] #[], .func (.func 111) #[] #[], .func (.func 112) #[] #[], .func (.func 114) #[] #[]], cellsR q11 70 [.func (.func 85) #[] #[], .func (.func 86) #[] #[], .func (.func 88) #[] #[], .func (.func 89) #[] #[], .func (.func 110) #[] #[], .func (.func 111) #[] #[], .func (.func 112) #[] #[], .func (.func 114) #[] #[]], cellsR q12 70 [.func (.func 96) #[] #[], .func (.func 97) #[] #[.pointer (some ⟨k0, 0, none⟩)], .func (.func 99) #[] #[], .func (.func 100) #[] #[]], cellsR k1 2 [.int .i64 1], cellsR k0 2 [.int .i64 0]]
/-- the map of kinds -/
def kindsR (m : Nat) : Res := anyR (fun F w => ∃ q1 q4 q5 q7 q8 q9 q10 q11 q12 k1 k0, SepL (kindsL m q1 q4 q5 q7 q8 q9 q10 q11 q12 k1 k0) F w)
  (fun h hk hs => let ⟨a, b, c, d, e, f, g, i, j, k, l, h⟩ := h; ⟨a, b, c, d, e, f, g, i, j, k, l, h.keeps hk hs⟩) (fun h => let ⟨a, b, c, d, e, f, g, i, j, k, l, h⟩ := h; h.lt)
def pcs (k : Nat) (ps : List Part) : List Value := (ps.map (partCells k)).flatten
/-- parts, in a slice that is read alone -/
def PartsV (F : Nat → Prop) (w : World) (v : Value) (ps : List Part) : Prop :=
  ∃ k, (∀ least, Part.number least ∈ ps → F k ∧ Box w k 2 [.int .i64 least]) ∧ ((ps = [] ∧ v = .slice none 0 0) ∨ ∃ q, F q ∧ v = .slice (some ⟨q, 0, none⟩) ps.length ps.length ∧ Box w q 70 (pcs k ps))
theorem PartsV.keeps {F S : Nat → Prop} {w w' : World} {v : Value} {ps : List Part} (h : PartsV F w v ps) (hk : Keeps S w w') (hs : ∀ k, F k → ¬ S k) : PartsV F w' v ps := by
  obtain ⟨k, h1, h2⟩ := h
  refine ⟨k, fun l hl => ⟨(h1 l hl).1, (h1 l hl).2.keeps hk (hs _ (h1 l hl).1)⟩, h2.imp id ?_⟩
  rintro ⟨q, g1, g2, g3⟩
  exact ⟨q, g1, g2, g3.keeps hk (hs _ g1)⟩
def partsR (v : Value) (ps : List Part) : Res := anyR (fun F w => PartsV F w v ps ∧ ∀ k, F k → k < w.heap.size) (fun h hk hs => ⟨h.1.keeps hk hs, fun k hF => Nat.lt_of_lt_of_le (h.2 k hF) hk.size⟩) (fun h => h.2)
theorem zeroP (w : World) : (zeroValue 63).run Tryz.prog w = .ok (.slice none 0 0) w := by kernel_rfl
theorem look_kindsE (q1 q4 q5 q7 q8 q9 q10 q11 q12 : Nat) (n : Int) : (lookI (kindsE q1 q4 q5 q7 q8 q9 q10 q11 q12) n (.slice none 0 0)) =
    if n = 1 then (.slice (some ⟨q1, 0, none⟩) 2 2, true) else if n = 2 then (.slice none 0 0, true) else if n = 3 then (.slice none 0 0, true) else if n = 4 then (.slice (some ⟨q4, 0, none⟩) 2 2, true) else if n = 5 then (.slice (some ⟨q5, 0, none⟩) 1 1, true)
    else if n = 6 then (.slice none 0 0, true) else if n = 7 then (.slice (some ⟨q7, 0, none⟩) 1 1, true) else if n = 8 then (.slice (some ⟨q8, 0, none⟩) 2 2, true) else if n = 9 then (.slice (some ⟨q9, 0, none⟩) 3 3, true)
    else if n = 10 then (.slice (some ⟨q10, 0, none⟩) 2 2, true) else if n = 11 then (.slice (some ⟨q11, 0, none⟩) 2 2, true) else if n = 12 then (.slice (some ⟨q12, 0, none⟩) 1 1, true) else (.slice none 0 0, false) := by
  unfold lookI kindsE
  by_cases h1 : n = 1
  · subst h1; rfl
  by_cases h2 : n = 2
  · subst h2; rfl
  by_cases h3 : n = 3
  · subst h3; rfl
  by_cases h4 : n = 4
  · subst h4; rfl
  by_cases h5 : n = 5
  · subst h5; rfl
  by_cases h6 : n = 6
  · subst h6; rfl
  by_cases h7 : n = 7
  · subst h7; rfl
  by_cases h8 : n = 8
  · subst h8; rfl
  by_cases h9 : n = 9
  · subst h9; rfl
  by_cases h10 : n = 10
  · subst h10; rfl
  by_cases h11 : n = 11
  · subst h11; rfl
  by_cases h12 : n = 12
  · subst h12; rfl
  have g := fun (k : Int) (h : ¬ n = k) => show ¬ k = n from fun e => h e.symm
  simp [h1, h2, h3, h4, h5, h6, h7, h8, h9, h10, h11, h12, g 1 h1, g 2 h2, g 3 h3, g 4 h4, g 5 h5, g 6 h6, g 7 h7, g 8 h8, g 9 h9, g 10 h10, g 11 h11, g 12 h12]
theorem SepL.box {w : World} : ∀ {L : List Res} {F : Nat → Prop} {L' : List Res} {b : Nat} {t : TypeId} {cs : List Value}, SepL L F w → Pick L (cellsR b t cs) L' → F b ∧ Box w b t cs := fun h p => by
  obtain ⟨A, B, h1, h2, h3, h4⟩ := p.sep h
  exact ⟨(h4 _).2 (.inl ((h1.1 _).2 rfl)), h1.2⟩
theorem kinds_look {F : Nat → Prop} {w : World} {m : Nat} (h : (kindsR m).p F w) (n : Int) (hn : I64 n) (ok : Bool) :
    ∃ v, (Instr.lookup 64 (.map (some m)) (.int .i64 n) ok).run Tryz.prog w = .ok (if ok then .tuple #[v, .bool (partsOf n).isSome] else v) w ∧ (partsR v ((partsOf n).getD [])).p F w := by
  obtain ⟨q1, q4, q5, q7, q8, q9, q10, q11, q12, k1, k0, h⟩ := h
  have hlt := h.lt
  have hm : MapI w m (kindsE q1 q4 q5 q7 q8 q9 q10 q11 q12) := by
    obtain ⟨A, B, h1, -, -, -⟩ := h
    exact h1.2
  have hl := hm.look Tryz.underlying64 Tryz.underlying22 zeroP hn (by unfold kindsE; simp) ok
  rw [look_kindsE] at hl
  have hb := fun {L' : List Res} {b : Nat} {t : TypeId} {cs : List Value} (p : Pick (kindsL m q1 q4 q5 q7 q8 q9 q10 q11 q12 k1 k0) (cellsR b t cs) L') => h.box p
  have b1 := hb (b := q1) (by repeat first | exact ph | apply pt)
  have b4 := hb (b := q4) (by repeat first | exact ph | apply pt)
  have b5 := hb (b := q5) (by repeat first | exact ph | apply pt)
  have b7 := hb (b := q7) (by repeat first | exact ph | apply pt)
  have b8 := hb (b := q8) (by repeat first | exact ph | apply pt)
  have b9 := hb (b := q9) (by repeat first | exact ph | apply pt)
  have b10 := hb (b := q10) (by repeat first | exact ph | apply pt)
  have b11 := hb (b := q11) (by repeat first | exact ph | apply pt)
  have b12 := hb (b := q12) (by repeat first | exact ph | apply pt)
  have bk1 := hb (b := k1) (by repeat first | exact ph | apply pt)
  have bk0 := hb (b := k0) (by repeat first | exact ph | apply pt)
  clear hb hm h hn
  unfold partsOf
  have nil : ∀ v : Value, v = .slice none 0 0 → (partsR v []).p F w := fun v hv => ⟨⟨0, ⟨fun _ h => (by simp at h), .inl ⟨rfl, hv⟩⟩⟩, hlt⟩
  have some' : ∀ (k q : Nat) (ps : List Part) (n : Nat), ps.length = n → (∀ least, Part.number least ∈ ps → F k ∧ Box w k 2 [.int .i64 least]) → F q → Box w q 70 (pcs k ps) → (partsR (.slice (some ⟨q, 0, none⟩) n n) ps).p F w :=
    fun k q ps n hn h1 h2 h3 => ⟨⟨k, ⟨h1, .inr ⟨q, h2, by rw [hn], h3⟩⟩⟩, hlt⟩
  by_cases h1 : n = 1
  · rw [if_pos h1] at hl ⊢; exact ⟨_, hl, some' 0 q1 _ 2 rfl (by simp) b1.1 b1.2⟩
  by_cases h2 : n = 2
  · rw [if_neg h1, if_pos h2] at hl ⊢; exact ⟨_, hl, nil _ rfl⟩
  by_cases h3 : n = 3
  · rw [if_neg h1, if_neg h2, if_pos h3] at hl ⊢; exact ⟨_, hl, nil _ rfl⟩
  by_cases h4 : n = 4
  · rw [if_neg h1, if_neg h2, if_neg h3, if_pos h4] at hl ⊢; exact ⟨_, hl, some' k1 q4 _ 2 rfl (fun l hl => by simp at hl; subst hl; exact bk1) b4.1 b4.2⟩
  by_cases h5 : n = 5
  · rw [if_neg h1, if_neg h2, if_neg h3, if_neg h4, if_pos h5] at hl ⊢; exact ⟨_, hl, some' 0 q5 _ 1 rfl (by simp) b5.1 b5.2⟩
  by_cases h6 : n = 6
  · rw [if_neg h1, if_neg h2, if_neg h3, if_neg h4, if_neg h5, if_pos h6] at hl ⊢; exact ⟨_, hl, nil _ rfl⟩
  by_cases h7 : n = 7
  · rw [if_neg h1, if_neg h2, if_neg h3, if_neg h4, if_neg h5, if_neg h6, if_pos h7] at hl ⊢; exact ⟨_, hl, some' 0 q7 _ 1 rfl (by simp) b7.1 b7.2⟩
  by_cases h8 : n = 8
  · rw [if_neg h1, if_neg h2, if_neg h3, if_neg h4, if_neg h5, if_neg h6, if_neg h7, if_pos h8] at hl ⊢; exact ⟨_, hl, some' 0 q8 _ 2 rfl (by simp) b8.1 b8.2⟩
  by_cases h9 : n = 9
  · rw [if_neg h1, if_neg h2, if_neg h3, if_neg h4, if_neg h5, if_neg h6, if_neg h7, if_neg h8, if_pos h9] at hl ⊢; exact ⟨_, hl, some' 0 q9 _ 3 rfl (by simp) b9.1 b9.2⟩
  by_cases h10 : n = 10
  · rw [if_neg h1, if_neg h2, if_neg h3, if_neg h4, if_neg h5, if_neg h6, if_neg h7, if_neg h8, if_neg h9, if_pos h10] at hl ⊢; exact ⟨_, hl, some' 0 q10 _ 2 rfl (by simp) b10.1 b10.2⟩
  by_cases h11 : n = 11
  · rw [if_neg h1, if_neg h2, if_neg h3, if_neg h4, if_neg h5, if_neg h6, if_neg h7, if_neg h8, if_neg h9, if_neg h10, if_pos h11] at hl ⊢; exact ⟨_, hl, some' 0 q11 _ 2 rfl (by simp) b11.1 b11.2⟩
  by_cases h12 : n = 12
  · rw [if_neg h1, if_neg h2, if_neg h3, if_neg h4, if_neg h5, if_neg h6, if_neg h7, if_neg h8, if_neg h9, if_neg h10, if_neg h11, if_pos h12] at hl ⊢; exact ⟨_, hl, some' k0 q12 _ 1 rfl (fun l hl => by simp at hl; subst hl; exact bk0) b12.1 b12.2⟩
  · rw [if_neg h1, if_neg h2, if_neg h3, if_neg h4, if_neg h5, if_neg h6, if_neg h7, if_neg h8, if_neg h9, if_neg h10, if_neg h11, if_neg h12] at hl ⊢; exact ⟨_, hl, nil _ rfl⟩
theorem kinds_any (w : World) : Calls Tryz.prog 27 #[] w fun e w' => ∃ m, e = .returned (.map (some m)) ∧ Upd NoB w w' (kindsR m) := by
  have HM := Lib.hid (Mem.start0 w)
  have hmm := run_makeMap (P := Tryz.prog) 64 w
  go_enter Tryz.func27, Tryz.ntmps27
  go_wp2_with fail
  refine Mem.call HM.out.mapNew fun w1 M => ?_
  clear hmm
  obtain ⟨m, hm⟩ : ∃ m, w.heap.size = m := ⟨_, rfl⟩
  rw [hm] at M ⊢
  clear hm
  replace HM := Lib.hid M
  clear M
  refine (made_member _).mono ?_
  rintro e w9 ⟨rfl, hE⟩
  replace HM := Lib.hid (HM.out.ext hE)
  clear hE
  simp only [partV, partCells, fnV]
  have fM := HM.out.fa
  go_wp2_with fail
  all_goals clear fM
  refine (made_token _).mono ?_
  rintro e w9 ⟨rfl, hE⟩
  replace HM := Lib.hid (HM.out.ext hE)
  clear hE
  simp only [partV, partCells, fnV]
  have fM := HM.out.fa
  go_wp2_with fail
  all_goals clear fM
  obtain ⟨q1, hq1⟩ : ∃ q, w9.heap.size = q := ⟨_, rfl⟩
  refine nxt HM fun w9 M => ?_
  clear HM; have HM := M; clear M
  rw [hq1] at HM ⊢
  clear hq1
  refine (of_any _ _ _ _ _ rfl).mono ?_
  rintro e w' ⟨rfl, hwq⟩
  rw [hwq]
  clear hwq w'
  obtain ⟨w8, hr, hm⟩ := (HM.out.pick (r := mapR m _) (by with_reducible repeat first | exact ph | apply pt)).mapPut (n := 1) (i64_lit _ rfl) (by simp) (.slice (some ⟨q1, 0, none⟩) 2 2)
  simp only [List.cons_append, List.nil_append] at hm
  replace HM := Lib.hid hm
  clear hm
  have fM := HM.out.fa
  go_wp2_with fail
  all_goals clear fM
  clear hr
  refine nxt HM fun w9 M => ?_
  clear HM; have HM := M; clear M
  refine (of_any _ _ _ _ _ rfl).mono ?_
  rintro e w' ⟨rfl, hwq⟩
  rw [hwq]
  clear hwq w'
  obtain ⟨w8, hr, hm⟩ := (HM.out.pick (r := mapR m _) (by with_reducible repeat first | exact ph | apply pt)).mapPut (n := 2) (i64_lit _ rfl) (by simp) (.slice none 0 0)
  simp only [List.cons_append, List.nil_append] at hm
  replace HM := Lib.hid hm
  clear hm
  have fM := HM.out.fa
  go_wp2_with fail
  all_goals clear fM
  clear hr
  refine nxt HM fun w9 M => ?_
  clear HM; have HM := M; clear M
  refine (of_any _ _ _ _ _ rfl).mono ?_
  rintro e w' ⟨rfl, hwq⟩
  rw [hwq]
  clear hwq w'
  obtain ⟨w8, hr, hm⟩ := (HM.out.pick (r := mapR m _) (by with_reducible repeat first | exact ph | apply pt)).mapPut (n := 3) (i64_lit _ rfl) (by simp) (.slice none 0 0)
  simp only [List.cons_append, List.nil_append] at hm
  replace HM := Lib.hid hm
  clear hm
  have fM := HM.out.fa
  go_wp2_with fail
  all_goals clear fM
  clear hr
  refine (made_number _ 1).mono ?_
  rintro e w9 ⟨kn1, rfl, hU⟩
  obtain ⟨F2, u1, u2, u3⟩ := hU
  replace HM := Lib.hid (HM.out.new (G := F2) u2 u1 (fun k hk => (u3 k hk).elim (fun h => (noB _ h).elim) id))
  clear u1 u2 u3 F2
  simp only [partV, partCells, fnV]
  have fM := HM.out.fa
  go_wp2_with fail
  all_goals clear fM
  refine (made_said _).mono ?_
  rintro e w9 ⟨rfl, hE⟩
  replace HM := Lib.hid (HM.out.ext hE)
  clear hE
  simp only [partV, partCells, fnV]
  have fM := HM.out.fa
  go_wp2_with fail
  all_goals clear fM
  obtain ⟨q4, hq4⟩ : ∃ q, w9.heap.size = q := ⟨_, rfl⟩
  refine nxt HM fun w9 M => ?_
  clear HM; have HM := M; clear M
  rw [hq4] at HM ⊢
  clear hq4
  refine (of_any _ _ _ _ _ rfl).mono ?_
  rintro e w' ⟨rfl, hwq⟩
  rw [hwq]
  clear hwq w'
  obtain ⟨w8, hr, hm⟩ := (HM.out.pick (r := mapR m _) (by with_reducible repeat first | exact ph | apply pt)).mapPut (n := 4) (i64_lit _ rfl) (by simp) (.slice (some ⟨q4, 0, none⟩) 2 2)
  simp only [List.cons_append, List.nil_append] at hm
  replace HM := Lib.hid hm
  clear hm
  have fM := HM.out.fa
  go_wp2_with fail
  all_goals clear fM
  clear hr
  refine (made_index _).mono ?_
  rintro e w9 ⟨rfl, hE⟩
  replace HM := Lib.hid (HM.out.ext hE)
  clear hE
  simp only [partV, partCells, fnV]
  have fM := HM.out.fa
  go_wp2_with fail
  all_goals clear fM
  obtain ⟨q5, hq5⟩ : ∃ q, w9.heap.size = q := ⟨_, rfl⟩
  refine nxt HM fun w9 M => ?_
  clear HM; have HM := M; clear M
  rw [hq5] at HM ⊢
  clear hq5
  refine (of_any _ _ _ _ _ rfl).mono ?_
  rintro e w' ⟨rfl, hwq⟩
  rw [hwq]
  clear hwq w'
  obtain ⟨w8, hr, hm⟩ := (HM.out.pick (r := mapR m _) (by with_reducible repeat first | exact ph | apply pt)).mapPut (n := 5) (i64_lit _ rfl) (by simp) (.slice (some ⟨q5, 0, none⟩) 1 1)
  simp only [List.cons_append, List.nil_append] at hm
  replace HM := Lib.hid hm
  clear hm
  have fM := HM.out.fa
  go_wp2_with fail
  all_goals clear fM
  clear hr
  refine nxt HM fun w9 M => ?_
  clear HM; have HM := M; clear M
  refine (of_any _ _ _ _ _ rfl).mono ?_
  rintro e w' ⟨rfl, hwq⟩
  rw [hwq]
  clear hwq w'
  obtain ⟨w8, hr, hm⟩ := (HM.out.pick (r := mapR m _) (by with_reducible repeat first | exact ph | apply pt)).mapPut (n := 6) (i64_lit _ rfl) (by simp) (.slice none 0 0)
  simp only [List.cons_append, List.nil_append] at hm
  replace HM := Lib.hid hm
  clear hm
  have fM := HM.out.fa
  go_wp2_with fail
  all_goals clear fM
  clear hr
  refine (made_is _).mono ?_
  rintro e w9 ⟨rfl, hE⟩
  replace HM := Lib.hid (HM.out.ext hE)
  clear hE
  simp only [partV, partCells, fnV]
  have fM := HM.out.fa
  go_wp2_with fail
  all_goals clear fM
  obtain ⟨q7, hq7⟩ : ∃ q, w9.heap.size = q := ⟨_, rfl⟩
  refine nxt HM fun w9 M => ?_
  clear HM; have HM := M; clear M
  rw [hq7] at HM ⊢
  clear hq7
  refine (of_any _ _ _ _ _ rfl).mono ?_
  rintro e w' ⟨rfl, hwq⟩
  rw [hwq]
  clear hwq w'
  obtain ⟨w8, hr, hm⟩ := (HM.out.pick (r := mapR m _) (by with_reducible repeat first | exact ph | apply pt)).mapPut (n := 7) (i64_lit _ rfl) (by simp) (.slice (some ⟨q7, 0, none⟩) 1 1)
  simp only [List.cons_append, List.nil_append] at hm
  replace HM := Lib.hid hm
  clear hm
  have fM := HM.out.fa
  go_wp2_with fail
  all_goals clear fM
  clear hr
  refine (made_index _).mono ?_
  rintro e w9 ⟨rfl, hE⟩
  replace HM := Lib.hid (HM.out.ext hE)
  clear hE
  simp only [partV, partCells, fnV]
  have fM := HM.out.fa
  go_wp2_with fail
  all_goals clear fM
  refine (made_token _).mono ?_
  rintro e w9 ⟨rfl, hE⟩
  replace HM := Lib.hid (HM.out.ext hE)
  clear hE
  simp only [partV, partCells, fnV]
  have fM := HM.out.fa
  go_wp2_with fail
  all_goals clear fM
  obtain ⟨q8, hq8⟩ : ∃ q, w9.heap.size = q := ⟨_, rfl⟩
  refine nxt HM fun w9 M => ?_
  clear HM; have HM := M; clear M
  rw [hq8] at HM ⊢
  clear hq8
  refine (of_any _ _ _ _ _ rfl).mono ?_
  rintro e w' ⟨rfl, hwq⟩
  rw [hwq]
  clear hwq w'
  obtain ⟨w8, hr, hm⟩ := (HM.out.pick (r := mapR m _) (by with_reducible repeat first | exact ph | apply pt)).mapPut (n := 8) (i64_lit _ rfl) (by simp) (.slice (some ⟨q8, 0, none⟩) 2 2)
  simp only [List.cons_append, List.nil_append] at hm
  replace HM := Lib.hid hm
  clear hm
  have fM := HM.out.fa
  go_wp2_with fail
  all_goals clear fM
  clear hr
  refine (made_index _).mono ?_
  rintro e w9 ⟨rfl, hE⟩
  replace HM := Lib.hid (HM.out.ext hE)
  clear hE
  simp only [partV, partCells, fnV]
  have fM := HM.out.fa
  go_wp2_with fail
  all_goals clear fM
  refine (made_token _).mono ?_
  rintro e w9 ⟨rfl, hE⟩
  replace HM := Lib.hid (HM.out.ext hE)
  clear hE
  simp only [partV, partCells, fnV]
  have fM := HM.out.fa
  go_wp2_with fail
  all_goals clear fM
  refine (made_entry _).mono ?_
  rintro e w9 ⟨rfl, hE⟩
  replace HM := Lib.hid (HM.out.ext hE)
  clear hE
  simp only [partV, partCells, fnV]
  have fM := HM.out.fa
  go_wp2_with fail
  all_goals clear fM
  obtain ⟨q9, hq9⟩ : ∃ q, w9.heap.size = q := ⟨_, rfl⟩
  refine nxt HM fun w9 M => ?_
  clear HM; have HM := M; clear M
  rw [hq9] at HM ⊢
  clear hq9
  refine (of_any _ _ _ _ _ rfl).mono ?_
  rintro e w' ⟨rfl, hwq⟩
  rw [hwq]
  clear hwq w'
  obtain ⟨w8, hr, hm⟩ := (HM.out.pick (r := mapR m _) (by with_reducible repeat first | exact ph | apply pt)).mapPut (n := 9) (i64_lit _ rfl) (by simp) (.slice (some ⟨q9, 0, none⟩) 3 3)
  simp only [List.cons_append, List.nil_append] at hm
  replace HM := Lib.hid hm
  clear hm
  have fM := HM.out.fa
  go_wp2_with fail
  all_goals clear fM
  clear hr
  refine (made_member _).mono ?_
  rintro e w9 ⟨rfl, hE⟩
  replace HM := Lib.hid (HM.out.ext hE)
  clear hE
  simp only [partV, partCells, fnV]
  have fM := HM.out.fa
  go_wp2_with fail
  all_goals clear fM
  refine (made_is _).mono ?_
  rintro e w9 ⟨rfl, hE⟩
  replace HM := Lib.hid (HM.out.ext hE)
  clear hE
  simp only [partV, partCells, fnV]
  have fM := HM.out.fa
  go_wp2_with fail
  all_goals clear fM
  obtain ⟨q10, hq10⟩ : ∃ q, w9.heap.size = q := ⟨_, rfl⟩
  refine nxt HM fun w9 M => ?_
  clear HM; have HM := M; clear M
  rw [hq10] at HM ⊢
  clear hq10
  refine (of_any _ _ _ _ _ rfl).mono ?_
  rintro e w' ⟨rfl, hwq⟩
  rw [hwq]
  clear hwq w'
  obtain ⟨w8, hr, hm⟩ := (HM.out.pick (r := mapR m _) (by with_reducible repeat first | exact ph | apply pt)).mapPut (n := 10) (i64_lit _ rfl) (by simp) (.slice (some ⟨q10, 0, none⟩) 2 2)
  simp only [List.cons_append, List.nil_append] at hm
  replace HM := Lib.hid hm
  clear hm
  have fM := HM.out.fa
  go_wp2_with fail
  all_goals clear fM
  clear hr
  refine (made_member _).mono ?_
  rintro e w9 ⟨rfl, hE⟩
  replace HM := Lib.hid (HM.out.ext hE)
  clear hE
  simp only [partV, partCells, fnV]
  have fM := HM.out.fa
  go_wp2_with fail
  all_goals clear fM
  refine (made_is _).mono ?_
  rintro e w9 ⟨rfl, hE⟩
  replace HM := Lib.hid (HM.out.ext hE)
  clear hE
  simp only [partV, partCells, fnV]
  have fM := HM.out.fa
  go_wp2_with fail
  all_goals clear fM
  obtain ⟨q11, hq11⟩ : ∃ q, w9.heap.size = q := ⟨_, rfl⟩
  refine nxt HM fun w9 M => ?_
  clear HM; have HM := M; clear M
  rw [hq11] at HM ⊢
  clear hq11
  refine (of_any _ _ _ _ _ rfl).mono ?_
  rintro e w' ⟨rfl, hwq⟩
  rw [hwq]
  clear hwq w'
  obtain ⟨w8, hr, hm⟩ := (HM.out.pick (r := mapR m _) (by with_reducible repeat first | exact ph | apply pt)).mapPut (n := 11) (i64_lit _ rfl) (by simp) (.slice (some ⟨q11, 0, none⟩) 2 2)
  simp only [List.cons_append, List.nil_append] at hm
  replace HM := Lib.hid hm
  clear hm
  have fM := HM.out.fa
  go_wp2_with fail
  all_goals clear fM
  clear hr
  refine (made_number _ 0).mono ?_
  rintro e w9 ⟨kn0, rfl, hU⟩
  obtain ⟨F2, u1, u2, u3⟩ := hU
  replace HM := Lib.hid (HM.out.new (G := F2) u2 u1 (fun k hk => (u3 k hk).elim (fun h => (noB _ h).elim) id))
  clear u1 u2 u3 F2
  simp only [partV, partCells, fnV]
  have fM := HM.out.fa
  go_wp2_with fail
  all_goals clear fM
  obtain ⟨q12, hq12⟩ : ∃ q, w9.heap.size = q := ⟨_, rfl⟩
  refine nxt HM fun w9 M => ?_
  clear HM; have HM := M; clear M
  rw [hq12] at HM ⊢
  clear hq12
  refine (of_any _ _ _ _ _ rfl).mono ?_
  rintro e w' ⟨rfl, hwq⟩
  rw [hwq]
  clear hwq w'
  obtain ⟨w8, hr, hm⟩ := (HM.out.pick (r := mapR m _) (by with_reducible repeat first | exact ph | apply pt)).mapPut (n := 12) (i64_lit _ rfl) (by simp) (.slice (some ⟨q12, 0, none⟩) 1 1)
  simp only [List.cons_append, List.nil_append] at hm
  replace HM := Lib.hid hm
  clear hm
  have fM := HM.out.fa
  go_wp2_with fail
  all_goals clear fM
  clear hr
  go_ret
  refine ⟨m, rfl, ?_⟩
  have hs := Mem.sub HM.out (L' := kindsL m q1 q4 q5 q7 q8 q9 q10 q11 q12 kn1 kn0) (by repeat first | exact Sub.nil | refine Sub.cons (by with_reducible repeat first | exact ph | apply pt) ?_)
  exact (Mem.close (L1 := kindsL m q1 q4 q5 q7 q8 q9 q10 q11 q12 kn1 kn0) (L := []) (r := kindsR m) hs fun A hA => ⟨_, _, _, _, _, _, _, _, _, _, _, hA⟩).upd
end Go.Proofs.YtcfgnbbiljohjaaGreatDoor
end
section
/- The parts of what is said: let go, and asked. Conditions: what is said lies in a block known whole; the tables read as they are laid; texts have at most 2^62 bytes. -/
set_option linter.unusedVariables false
set_option linter.unusedSimpArgs false
set_option maxHeartbeats 2000000
set_option maxRecDepth 10000
namespace Go.Proofs.YtcfgnbbiljohjaaGreatDoor
open Go.RowKit
def clearF : Part → Nat
  | .member => 85
  | .number _ => 96
  | .index => 106
  | .is => 110
  | .said => 101
  | .token => 90
  | .entry => 116
theorem Sd.set1 (s : Sd) : ({ s with member := 0 } : Sd).cells = s.cells.set 1 (.int .i64 0) := rfl
theorem clear_member {A : Nat → Prop} (w : World) (b : Nat) (s : Sd) (h : (cellsR b 27 s.cells).p A w) :
    Calls Tryz.prog 85 #[.pointer (some ⟨b, 0, none⟩)] w fun e w' => e = .returned (.tuple #[]) ∧ Upd A w w' (cellsR b 27 ({ { s with member := 0 } with } : Sd).cells) := by
  have HM := Lib.hid (Mem.start h)
  unfold Sd.cells at HM
  clear h
  go_enter Tryz.func85, Tryz.ntmps85
  have fM := HM.out.fa
  go_wp2_with fail
  all_goals clear fM
  go_end0
  refine ⟨rfl, ?_⟩
  refine nxt HM fun w1 M => ?_
  clear HM; have HM := M; clear M
  exact HM.out.upd
theorem clear_number {A : Nat → Prop} (w : World) (b : Nat) (s : Sd) (h : (cellsR b 27 s.cells).p A w) :
    Calls Tryz.prog 96 #[.pointer (some ⟨b, 0, none⟩)] w fun e w' => e = .returned (.tuple #[]) ∧ Upd A w w' (cellsR b 27 ({ { s with number := 0 } with } : Sd).cells) := by
  have HM := Lib.hid (Mem.start h)
  unfold Sd.cells at HM
  clear h
  go_enter Tryz.func96, Tryz.ntmps96
  have fM := HM.out.fa
  go_wp2_with fail
  all_goals clear fM
  go_end0
  refine ⟨rfl, ?_⟩
  refine nxt HM fun w1 M => ?_
  clear HM; have HM := M; clear M
  exact HM.out.upd
theorem clear_index {A : Nat → Prop} (w : World) (b : Nat) (s : Sd) (h : (cellsR b 27 s.cells).p A w) :
    Calls Tryz.prog 106 #[.pointer (some ⟨b, 0, none⟩)] w fun e w' => e = .returned (.tuple #[]) ∧ Upd A w w' (cellsR b 27 ({ { s with index := 0 } with } : Sd).cells) := by
  have HM := Lib.hid (Mem.start h)
  unfold Sd.cells at HM
  clear h
  go_enter Tryz.func106, Tryz.ntmps106
  have fM := HM.out.fa
  go_wp2_with fail
  all_goals clear fM
  go_end0
  refine ⟨rfl, ?_⟩
  refine nxt HM fun w1 M => ?_
  clear HM; have HM := M; clear M
  exact HM.out.upd
theorem clear_is {A : Nat → Prop} (w : World) (b : Nat) (s : Sd) (h : (cellsR b 27 s.cells).p A w) :
    Calls Tryz.prog 110 #[.pointer (some ⟨b, 0, none⟩)] w fun e w' => e = .returned (.tuple #[]) ∧ Upd A w w' (cellsR b 27 ({ { s with is := false } with } : Sd).cells) := by
  have HM := Lib.hid (Mem.start h)
  unfold Sd.cells at HM
  clear h
  go_enter Tryz.func110, Tryz.ntmps110
  have fM := HM.out.fa
  go_wp2_with fail
  all_goals clear fM
  go_end0
  refine ⟨rfl, ?_⟩
  refine nxt HM fun w1 M => ?_
  clear HM; have HM := M; clear M
  exact HM.out.upd
theorem clear_said {A : Nat → Prop} (w : World) (b : Nat) (s : Sd) (h : (cellsR b 27 s.cells).p A w) :
    Calls Tryz.prog 101 #[.pointer (some ⟨b, 0, none⟩)] w fun e w' => e = .returned (.tuple #[]) ∧ Upd A w w' (cellsR b 27 ({ { s with text := [] } with } : Sd).cells) := by
  have HM := Lib.hid (Mem.start h)
  unfold Sd.cells at HM
  clear h
  go_enter Tryz.func101, Tryz.ntmps101
  have fM := HM.out.fa
  go_wp2_with fail
  all_goals clear fM
  go_end0
  refine ⟨rfl, ?_⟩
  refine nxt HM fun w1 M => ?_
  clear HM; have HM := M; clear M
  exact HM.out.upd
theorem clear_token {A : Nat → Prop} (w : World) (b : Nat) (s : Sd) (h : (cellsR b 27 s.cells).p A w) :
    Calls Tryz.prog 90 #[.pointer (some ⟨b, 0, none⟩)] w fun e w' => e = .returned (.tuple #[]) ∧ Upd A w w' (cellsR b 27 ({ { s with token := [] } with } : Sd).cells) := by
  have HM := Lib.hid (Mem.start h)
  unfold Sd.cells at HM
  clear h
  go_enter Tryz.func90, Tryz.ntmps90
  have fM := HM.out.fa
  go_wp2_with fail
  all_goals clear fM
  go_end0
  refine ⟨rfl, ?_⟩
  refine nxt HM fun w1 M => ?_
  clear HM; have HM := M; clear M
  exact HM.out.upd
theorem clear_entry {A : Nat → Prop} (w : World) (b : Nat) (s : Sd) (h : (cellsR b 27 s.cells).p A w) :
    Calls Tryz.prog 116 #[.pointer (some ⟨b, 0, none⟩)] w fun e w' => e = .returned (.tuple #[]) ∧ Upd A w w' (cellsR b 27 ({ { s with e := En0 } with } : Sd).cells) := by
  have HM := Lib.hid (Mem.start h)
  unfold Sd.cells at HM
  clear h
  go_enter Tryz.func116, Tryz.ntmps116
  have fM := HM.out.fa
  go_wp2_with fail
  all_goals clear fM
  go_end0
  refine ⟨rfl, ?_⟩
  refine nxt HM fun w1 M => ?_
  clear HM; have HM := M; clear M
  exact HM.out.upd
theorem clear_any {A : Nat → Prop} (w : World) (b : Nat) (p : Part) (s : Sd) (h : (cellsR b 27 s.cells).p A w) :
    Calls Tryz.prog (clearF p) #[.pointer (some ⟨b, 0, none⟩)] w fun e w' => e = .returned (.tuple #[]) ∧ Upd A w w' (cellsR b 27 (p.clear s).cells) := by
  cases p
  · exact clear_member w b s h
  · exact clear_number w b s h
  · exact clear_index w b s h
  · exact clear_is w b s h
  · exact clear_said w b s h
  · exact clear_token w b s h
  · exact clear_entry w b s h
theorem in_int (w : World) (n a b : Int) : Calls Tryz.prog 87 #[.int .i64 n, .int .i64 a, .int .i64 b] w fun e w' => e = .returned (.bool (decide (a ≤ n ∧ n ≤ b))) ∧ w' = w := by
  by_cases h1 : a ≤ n
  · have e1 : decide (a ≤ n ∧ n ≤ b) = decide (n ≤ b) := by simp [h1]
    rw [e1]
    clear e1
    go_enter Tryz.func87, Tryz.ntmps87
    go_wp2_with fail
    go_ret
    exact ⟨rfl, rfl⟩
  · have e1 : decide (a ≤ n ∧ n ≤ b) = false := by simp [h1]
    rw [e1]
    clear e1
    go_enter Tryz.func87, Tryz.ntmps87
    go_wp2_with fail
    go_ret
    exact ⟨rfl, rfl⟩
theorem in_i64 (w : World) (n a b : Int) : Calls Tryz.prog 98 #[.int .i64 n, .int .i64 a, .int .i64 b] w fun e w' => e = .returned (.bool (decide (a ≤ n ∧ n ≤ b))) ∧ w' = w := by
  by_cases h1 : a ≤ n
  · have e1 : decide (a ≤ n ∧ n ≤ b) = decide (n ≤ b) := by simp [h1]
    rw [e1]
    clear e1
    go_enter Tryz.func98, Tryz.ntmps98
    go_wp2_with fail
    go_ret
    exact ⟨rfl, rfl⟩
  · have e1 : decide (a ≤ n ∧ n ≤ b) = false := by simp [h1]
    rw [e1]
    clear e1
    go_enter Tryz.func98, Tryz.ntmps98
    go_wp2_with fail
    go_ret
    exact ⟨rfl, rfl⟩
theorem in_kind (w : World) (n a b : Int) : Calls Tryz.prog 47 #[.int .i64 n, .int .i64 a, .int .i64 b] w fun e w' => e = .returned (.bool (decide (a ≤ n ∧ n ≤ b))) ∧ w' = w := by
  by_cases h1 : a ≤ n
  · have e1 : decide (a ≤ n ∧ n ≤ b) = decide (n ≤ b) := by simp [h1]
    rw [e1]
    clear e1
    go_enter Tryz.func47, Tryz.ntmps47
    go_wp2_with fail
    go_ret
    exact ⟨rfl, rfl⟩
  · have e1 : decide (a ≤ n ∧ n ≤ b) = false := by simp [h1]
    rw [e1]
    clear e1
    go_enter Tryz.func47, Tryz.ntmps47
    go_wp2_with fail
    go_ret
    exact ⟨rfl, rfl⟩
/-- what is said fits the machine -/
structure OkS (s : Sd) : Prop where
  ek : I64 s.e.kind
  text : s.text.length ≤ 9223372036854775807
  token : s.token.length ≤ 9223372036854775807
  etext : s.e.text.length ≤ 9223372036854775807
def mayF (k : Nat) : Part → Nat × Array Value
  | .member => (86, #[])
  | .number _ => (97, #[.pointer (some ⟨k, 0, none⟩)])
  | .index => (107, #[])
  | .is => (111, #[])
  | .said => (102, #[])
  | .token => (91, #[])
  | .entry => (117, #[])
theorem may_member (w : World) (s : Sd) : Calls Tryz.prog 86 #[s.v] w fun e w' => e = .returned (.bool (Part.may .member s)) ∧ Ext w w' := by
  have HM := Lib.hid (Mem.start0 w)
  have HP := Lib.hid (show Part.may .member s = decide (0 ≤ s.member ∧ s.member ≤ 15) from rfl)
  unfold Sd.v Sd.cells
  go_enter Tryz.func86, Tryz.ntmps86
  have fM := HM.out.fa
  go_wp2_with fail
  all_goals clear fM
  refine nxt HM fun w1 M => ?_
  clear HM; have HM := M; clear M
  refine (in_int _ s.member 0 15).mono ?_
  rintro e w' ⟨rfl, hwq⟩
  rw [hwq, ← HP.out]
  clear hwq w'
  go_wp2_with fail
  go_ret
  exact ⟨rfl, HM.out.extTo⟩
theorem may_index (w : World) (s : Sd) : Calls Tryz.prog 107 #[s.v] w fun e w' => e = .returned (.bool (Part.may .index s)) ∧ Ext w w' := by
  have HM := Lib.hid (Mem.start0 w)
  have HP := Lib.hid (show Part.may .index s = decide (0 ≤ s.index ∧ s.index ≤ 2147483647) from rfl)
  unfold Sd.v Sd.cells
  go_enter Tryz.func107, Tryz.ntmps107
  have fM := HM.out.fa
  go_wp2_with fail
  all_goals clear fM
  refine nxt HM fun w1 M => ?_
  clear HM; have HM := M; clear M
  refine (in_i64 _ s.index 0 2147483647).mono ?_
  rintro e w' ⟨rfl, hwq⟩
  rw [hwq, ← HP.out]
  clear hwq w'
  go_wp2_with fail
  go_ret
  exact ⟨rfl, HM.out.extTo⟩
theorem may_number (w : World) (k : Nat) (n : Int) (s : Sd) (hk : Box w k 2 [.int .i64 n]) : Calls Tryz.prog 97 #[s.v, .pointer (some ⟨k, 0, none⟩)] w fun e w' => e = .returned (.bool (Part.may (.number n) s)) ∧ Ext w w' := by
  have HM := Lib.hid (Mem.start0 w)
  have HK := Lib.hid hk
  clear hk
  have HP := Lib.hid (show Part.may (.number n) s = decide (n ≤ s.number ∧ s.number ≤ 2147483647) from rfl)
  unfold Sd.v Sd.cells
  go_enter Tryz.func97, Tryz.ntmps97
  have fM := HM.out.fa
  have fMHK := (HK.out.ext HM.out.extTo).reads
  have fLHK := (HK.out.ext HM.out.extTo).lt
  go_wp2_with fail
  all_goals clear fM fMHK fLHK
  refine nxt HM fun w1 M => ?_
  clear HM; have HM := M; clear M
  refine (in_i64 _ s.number n 2147483647).mono ?_
  rintro e w' ⟨rfl, hwq⟩
  rw [hwq, ← HP.out]
  clear hwq w'
  go_wp2_with fail
  go_ret
  exact ⟨rfl, HM.out.extTo⟩
theorem may_is (w : World) (s : Sd) : Calls Tryz.prog 111 #[s.v] w fun e w' => e = .returned (.bool (Part.may .is s)) ∧ Ext w w' := by
  have HM := Lib.hid (Mem.start0 w)
  unfold Sd.v Sd.cells Part.may
  go_enter Tryz.func111, Tryz.ntmps111
  go_wp2_with fail
  go_ret
  exact ⟨rfl, HM.out.to.extTo⟩
theorem may_token (w : World) (s : Sd) (hs : s.token.length ≤ 9223372036854775807) : Calls Tryz.prog 91 #[s.v] w fun e w' => e = .returned (.bool (Part.may .token s)) ∧ Ext w w' := by
  have HM := Lib.hid (Mem.start0 w)
  have hsz : (bs s.token).size = s.token.length := bs_size _
  have hd : decide ((s.token.length : Int) ≤ 200) = decide (s.token.length ≤ 200) := by rw [decide_eq_decide]; omega
  have HD := Lib.hid hd
  clear hd
  unfold Sd.v Sd.cells Part.may
  go_enter Tryz.func91, Tryz.ntmps91
  have fM := HM.out.fa
  go_wp2_with fail
  all_goals clear fM
  go_ret
  refine ⟨?_, HM.out.to.extTo⟩
  first | rfl | (rw [← HD.out]; rfl) | (simp; done)
theorem may_said (W w : World) (hT : Tabs W) (hE : Ext W w) (s : Sd) (hs : s.text.length ≤ 9223372036854775807) : Calls Tryz.prog 102 #[s.v] w fun e w' => e = .returned (.bool (Part.may .said s)) ∧ Ext w w' := by
  have HM := Lib.hid (Mem.start0 w)
  have HE := Lib.hid hE
  clear hE
  have hd : ((chk s.text : Int) == 0) = (chk s.text == 0) := by rw [Bool.eq_iff_iff]; simp
  have HD := Lib.hid hd
  clear hd
  unfold Sd.v Sd.cells Part.may
  go_enter Tryz.func102, Tryz.ntmps102
  have fM := HM.out.fa
  go_wp2_with fail
  all_goals clear fM
  refine nxt HM fun w1 M => ?_
  clear HM; have HM := M; clear M
  refine (check_chk W w1 hT (HE.out.ext HM.out.extTo) s.text hs).mono ?_
  rintro e w2 ⟨rfl, hE2⟩
  replace HM := Lib.hid (HM.out.ext hE2)
  clear hE2
  go_wp2_with fail
  go_ret
  refine ⟨?_, HM.out.extTo⟩
  rw [← HD.out]
  first | rfl | simp
theorem may_entry (W w : World) (hT : Tabs W) (hE : Ext W w) (s : Sd) (hk : I64 s.e.kind) (hs : s.e.text.length ≤ 9223372036854775807) : Calls Tryz.prog 117 #[s.v] w fun e w' => e = .returned (.bool (Part.may .entry s)) ∧ Ext w w' := by
  have HM := Lib.hid (Mem.start0 w)
  have HE := Lib.hid hE
  clear hE
  unfold Sd.v Sd.cells
  by_cases h1 : s.e.kind = 1
  · have HP := Lib.hid (show Part.may .entry s = false by show (decide (s.e.kind ≠ 1) && enB s.e) = false; rw [decide_eq_false (fun h => h h1), Bool.false_and])
    go_enter Tryz.func117, Tryz.ntmps117
    have fM := HM.out.fa
    go_wp2_with fail
    all_goals clear fM
    go_ret
    rw [HP.out]
    exact ⟨by first | rfl | simp, HM.out.to.extTo⟩
  · have HP := Lib.hid (show Part.may .entry s = enB s.e by show (decide (s.e.kind ≠ 1) && enB s.e) = enB s.e; rw [decide_eq_true h1, Bool.true_and])
    have HV := Lib.hid (show s.e.v = .agg #[.int .i64 s.e.kind, .int .i64 s.e.member, .int .i64 s.e.number, .string (bs s.e.text)] from rfl)
    go_enter Tryz.func117, Tryz.ntmps117
    have fM := HM.out.fa
    go_wp2_with fail
    all_goals clear fM
    refine nxt HM fun w1 M => ?_
    clear HM; have HM := M; clear M
    rw [← HV.out]
    refine (right_any w1 s.e hk (fun _ w2 h2 => check_chk W w2 hT ((HE.out.ext HM.out.extTo).ext h2) s.e.text hs)).mono ?_
    rintro e w2 ⟨rfl, hE2⟩
    replace HM := Lib.hid (HM.out.ext hE2)
    clear hE2
    go_wp2_with fail
    go_ret
    rw [HP.out]
    exact ⟨by first | rfl | simp [h1], HM.out.extTo⟩
theorem may_any (W w : World) (hT : Tabs W) (hE : Ext W w) (k : Nat) (p : Part) (s : Sd) (hs : OkS s) (hk : ∀ n, p = .number n → Box w k 2 [.int .i64 n]) :
    Calls Tryz.prog (mayF k p).1 (#[s.v] ++ (mayF k p).2) w fun e w' => e = .returned (.bool (p.may s)) ∧ Ext w w' := by
  cases p
  · exact may_member w s
  · exact may_number w k _ s (hk _ rfl)
  · exact may_index w s
  · exact may_is w s
  · exact may_said W w hT hE s hs.text
  · exact may_token w s hs.token
  · exact may_entry W w hT hE s hs.ek hs.etext
end Go.Proofs.YtcfgnbbiljohjaaGreatDoor
end
