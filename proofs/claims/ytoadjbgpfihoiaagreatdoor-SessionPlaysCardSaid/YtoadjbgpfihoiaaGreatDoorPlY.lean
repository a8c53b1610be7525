/- Texts UB, UC, VA, one behind the other. Conditions: as each says. -/
import Derived.Test.YtoadjbgpfihoiaaGreatDoorPlQ
import Derived.Test.YtoadjbgpfihoiaaGreatDoorPlR
set_option linter.unusedVariables false
set_option linter.unusedSimpArgs false
set_option maxHeartbeats 8000000
set_option maxRecDepth 100000
namespace Go.Proofs.YtoadjbgpfihoiaaGreatDoor
open Go.RowKit
section
open Go.RowKit Go.Shelf
def sgE : Enc Sg where
 cells x := [.int .i64 (x.at' : Int), .int .i64 (x.size : Int), .int .i64 (x.n : Int), .bool x.broken]
 sz := 4
 len _ := rfl
 one x u hu := by
  simp only [List.mem_cons, List.not_mem_nil, or_false] at hu; rcases hu with rfl | rfl | rfl | rfl <;> rfl
theorem infoSign : (Tryz.prog.info? 277).map (fun i => (i.zero, i.size, i.bytes)) = some (some (.agg #[.int .i64 0, .int .i64 0, .int .i64 0, .bool false]), 4, 32) := by kernel_rfl
theorem add_sign {F : Nat → Prop} {w0 w : World} {L : List Res} {v : Value} {l : List Sg} (ty : TypeId) (h : Mem F w0 w (rowR sgE v l :: L)) (b c : Nat) (x : Sg) (hb : ∀ o, w.cell? ⟨b, o, none⟩ = (sgE.cells x)[o]?) (hl : l.length < 1000000) :
 ∃ v' w', (Builtin.append_ #[274, 274] ty #[v, .slice (some ⟨b, 0, none⟩) 1 c]).run Tryz.prog w = .ok v' w' ∧ Mem F w0 w' (rowR sgE v' (l ++ [x]) :: L) := by
 obtain ⟨i0, hi, hz0, hz1, hz2⟩ := info_parts infoSign; exact Mem.rowAdd 274 274 ty 277 i0 _ 32 Tryz.underlying274 Tryz.underlying274 hi hz0 hz1 hz2 rfl h b c x hb (by simp [maxLen]; omega) (by omega)
theorem slice_bs (l : List UInt8) (p : Nat) (h : p ≤ l.length) (W : World) : (Instr.slice 9 (.string (bs l)) (some (.int .i64 (p : Int))) none none).run Tryz.prog W = .ok (.string (bs (l.drop p))) W := by
 rw [run_slice_string_l W _ _ Tryz.underlying9 _ _ (by omega) (by rw [bs_size]; omega), show ((p : Int)).toNat = p from rfl, Lib.extract_from, bs_data]; rfl
theorem signsF_succ (l : List UInt8) (f p : Nat) (h : p < l.length) : signsF l (f + 1) p = if (sgn (l.drop p)).2 = 0 then ⟨p, 1, 65533, true⟩ :: signsF l f (p + 1) else ⟨p, (sgn (l.drop p)).2, (sgn (l.drop p)).1, false⟩ :: signsF l f (p + (sgn (l.drop p)).2) := by
 rw [signsF, if_pos h]
theorem sgn_le (l : List UInt8) (h : l ≠ []) : (sgn l).2 ≤ l.length := by
 have h1 : 0 < l.length := List.length_pos_iff.2 h; rw [sgn_N]; split
 · exact Nat.zero_le _
 · unfold Lib.decodeN
   repeat' split
   all_goals (dsimp only; omega)
theorem Mem.drop' {F : Nat → Prop} {w0 w : World} {x r : Res} {L : List Res} (h : Mem F w0 w (x :: r :: L)) : Mem F w0 w (x :: L) := (h.pick (.there .here)).drop
theorem signs_any (w : World) (l : List UInt8) (hl : l.length ≤ 500000) :
 Calls Tryz.prog 193 #[.string (bs l)] w fun r w' => ∃ v, r = .returned v ∧ Upd NoB w w' (rowR sgE v (signsL l)) := by
 have HM := Hd (Mem.start0 w); have hsz := bs_size l; go_enter Tryz.func193, Tryz.ntmps193
 have fM := HM.out.fa; go_wp2_with fail; all_goals clear fM
 go_loopw [3, 4] (fun o i wr => ∃ (p f : Nat) (q : List Sg), i = .int .i64 (p : Int) ∧ Hid (signsL l = q ++ signsF l f p ∧ l.length ≤ p + f ∧ p ≤ l.length ∧ q.length ≤ p) ∧ Hid (Mem NoB w wr [rowR sgE o q])) (fun _ i _ => l.length - (intOf i).toNat)
 case atStart => exact ⟨0, l.length, [], rfl, Hd ⟨rfl, by omega, by omega, by simp⟩, Hd HM.out.nilRow⟩
 case round =>
  obtain ⟨p, f, q, rfl, HP, HM⟩ := hrel; have hp := HP.out.2.2.1; by_cases hlt : p < l.length
  · have hlt' : (p : Int) < (l.length : Int) := by omega
    have hsl := slice_bs l p hp; clear hp; obtain ⟨f, rfl⟩ : ∃ g, f = g + 1 := ⟨f - 1, by have := HP.out; omega⟩; have fM := HM.out.fa; go_wp2_with fail; all_goals clear fM
    refine (sign_any wr (l.drop p) (by intro h; have := congrArg List.length h; simp at this; omega)).mono ?_; rintro r w1 ⟨rfl, hE⟩; replace HM := Hd (HM.out.ext hE); clear hE hsl; have hst := signsF_succ l f p hlt; by_cases hz : (sgn (l.drop p)).2 = 0
    · rw [if_pos hz] at hst
      rw [hz]; have HST := Hd hst; clear hst hz; have g1 : wrap64 ((p : Int) + 1) = ((p + 1 : Nat) : Int) := by rw [w64 (y := ((p + 1 : Nat) : Int)) (by omega) (by omega) (by omega)]
      have fM := HM.out.fa; go_wp2_with (at_builtin; refine standing ?_); all_goals clear fM
      refine nxt HM fun w2 M => ?_
      replace HM := M; clear M; obtain ⟨Ahb, hb⟩ := HM.out.get (r := cellsR w1.heap.size 277 [.int .i64 (p : Int), .int .i64 1, .int .i64 65533, .bool true]) pk; have hbr := hb.2.reads.1; have hql : q.length < 1000000 := by have := HP.out; omega
      obtain ⟨v3, w3, hr, hm⟩ := add_sign 274 (HM.out.pick (r := rowR sgE u3 q) pk) w1.heap.size 1 (⟨p, 1, 65533, true⟩ : Sg) hbr hql; replace HM := Hd hm.drop'; clear hm hb hbr hql Ahb; refine ⟨?_⟩; refine wpList_append_ran rfl _ _ hr rfl rfl rfl ?_; clear hr; have fM := HM.out.fa; go_wp2_with fail; all_goals clear fM
      go_roundw
      case rel =>
       refine ⟨p + 1, f, q ++ [(⟨p, 1, 65533, true⟩ : Sg)], by go_num, Hd ⟨?_, by have := HP.out; omega, by have := HP.out; omega, by have := HP.out; simp; omega⟩, HM⟩; rw [HP.out.1, HST.out, List.append_assoc]; rfl
      case measure => simp [intOf]; omega
    · rw [if_neg hz] at hst
      obtain ⟨n, k, hnk⟩ : ∃ n k, sgn (l.drop p) = (n, k) := ⟨_, _, rfl⟩; have hle := sgn_le (l.drop p) (by intro h; have := congrArg List.length h; simp at this; omega); rw [List.length_drop] at hle; rw [hnk] at hst hz hle ⊢; dsimp only at hst hz hle ⊢; have HST := Hd hst; have HK := Hd (show 0 < k ∧ p + k ≤ l.length from ⟨by omega, by omega⟩); have hz' : ((k : Int) == 0) = false := by simp; omega
      clear hst hnk hz hle; have g1 : wrap64 ((p : Int) + (k : Int)) = ((p + k : Nat) : Int) := by have := HK.out; have := HP.out; rw [w64 (y := ((p + k : Nat) : Int)) (by omega) (by omega) (by omega)]
      have fM := HM.out.fa; go_wp2_with (at_builtin; refine standing ?_); all_goals clear fM
      refine nxt HM fun w2 M => ?_
      replace HM := M; clear M; obtain ⟨Ahb, hb⟩ := HM.out.get (r := cellsR w1.heap.size 277 [.int .i64 (p : Int), .int .i64 (k : Int), .int .i64 (n : Int), .bool false]) pk; have hbr := hb.2.reads.1; have hql : q.length < 1000000 := by have := HP.out; omega
      obtain ⟨v3, w3, hr, hm⟩ := add_sign 274 (HM.out.pick (r := rowR sgE u3 q) pk) w1.heap.size 1 (⟨p, k, n, false⟩ : Sg) hbr hql; replace HM := Hd hm.drop'; clear hm hb hbr hql Ahb; refine ⟨?_⟩; refine wpList_append_ran rfl _ _ hr rfl rfl rfl ?_; clear hr; have := HK.out; have fM := HM.out.fa; go_wp2_with fail; all_goals clear fM
      go_roundw
      case rel =>
       refine ⟨p + k, f, q ++ [(⟨p, k, n, false⟩ : Sg)], by go_num, Hd ⟨?_, by have := HP.out; omega, by have := HP.out; omega, by have := HP.out; simp; omega⟩, HM⟩; rw [HP.out.1, HST.out, List.append_assoc]; rfl
      case measure => simp [intOf]; omega
  · have hend := signsF_end l f p hlt
    have hq : signsL l = q := by rw [HP.out.1, hend, List.append_nil]
    have HQ := Hd hq; have hlt' : ¬ (p : Int) < (l.length : Int) := by omega
    clear hend hq hp; have fM := HM.out.fa; go_wp2_with fail; all_goals clear fM
    go_ret; refine ⟨_, rfl, ?_⟩; rw [HQ.out]; exact HM.out.upd
end
section
open Go.RowKit Go.Shelf
theorem chk_3 {l : List UInt8} (h : 200 < l.length) : chk l = 3 := by unfold chk; rw [if_pos h]
theorem chk_130 {l : List UInt8} (h : ¬ 200 < l.length) (k : Nat) (hk : k < (signsL l).length) (hb : (signsL l)[k].broken = true) : chk l = 130 := by
 unfold chk; rw [if_neg h, if_pos (List.any_eq_true.2 ⟨_, List.getElem_mem hk, hb⟩)]
theorem any_none {α : Type} (l : List α) (p : α → Bool) (h : ∀ j (hj : j < l.length), p l[j] = false) : l.any p = false := by
 rw [List.any_eq_false]; intro x hx; obtain ⟨j, hj, rfl⟩ := List.getElem_of_mem hx; rw [h j hj]; exact Bool.noConfusion
theorem chk_131 {l : List UInt8} (h : ¬ 200 < l.length) (h1 : ∀ j (hj : j < (signsL l).length), (signsL l)[j].broken = false) (k : Nat) (hk : k < (signsL l).length) (hb : (signsL l)[k].bad = true) : chk l = 131 := by
 unfold chk; rw [if_neg h, any_none (signsL l) (fun x : Sg => x.broken) h1, if_neg Bool.noConfusion, if_pos (List.any_eq_true.2 ⟨_, List.getElem_mem hk, hb⟩)]
theorem chk_rest {l : List UInt8} (h : ¬ 200 < l.length) (h1 : ∀ j (hj : j < (signsL l).length), (signsL l)[j].broken = false) (h2 : ∀ j (hj : j < (signsL l).length), (signsL l)[j].bad = false) : chk l = if blankB l = true then 132 else 0 := by
 unfold chk; rw [if_neg h, any_none (signsL l) (fun x : Sg => x.broken) h1, if_neg Bool.noConfusion, any_none (signsL l) (fun x : Sg => x.bad) h2, if_neg Bool.noConfusion]
theorem signsF_len (l : List UInt8) : ∀ f p, (signsF l f p).length ≤ f
 | 0, p => by simp [signsF]
 | f + 1, p => by
   rw [signsF]; split
   · split
     · have := signsF_len l f (p + 1); simp; omega
     · have := signsF_len l f (p + (sgn (l.drop p)).2); simp; omega
   · simp
theorem sg_at {A : Nat → Prop} {w : World} {a : Option Addr} {c : Nat} {q : List Sg} (h : (rowR sgE (.slice a q.length c) q).p A w) (k : Nat) (hk : k < q.length) :
 ∃ g o, a = some ⟨g, o, none⟩ ∧ q.length ≤ c ∧ w.cell? ⟨g, o + k * 4 + 2, none⟩ = some (.int .i64 (q[k].n : Int)) ∧ w.cell? ⟨g, o + k * 4 + 3, none⟩ = some (.bool q[k].broken) := by
 obtain ⟨g, o, cap, hv, h1, h2, h3⟩ := row_cells h (by omega); cases hv
 exact ⟨g, o, rfl, h1, h3 k hk 2 (by decide), h3 k hk 3 (by decide)⟩
theorem check03_any (w : World) (l : List UInt8) (hl : l.length ≤ 500000) :
 Calls Tryz.prog 132 #[.string (bs l)] w fun r w' => r = .returned (.int .i64 (chk l : Int)) ∧ Ext w w' := by
 have hsz := bs_size l; by_cases h0 : 200 < l.length
 · have g0 : (200 : Int) < (l.length : Int) := by omega
   have HQ := Hd (chk_3 h0); clear h0 hl; go_enter Tryz.func132, Tryz.ntmps132
   go_wp2_with fail; go_ret; exact ⟨by rw [HQ.out]; rfl, Keeps.refl _ _⟩
 have g0 : ¬ (200 : Int) < (l.length : Int) := by omega
 have H0 := Hd h0; have HL := Hd hl; clear h0 hl; go_enter Tryz.func132, Tryz.ntmps132
 go_wp2_with fail; refine (signs_any w l HL.out).mono ?_; rintro r w1 ⟨v, rfl, A, hA, hE, -⟩; have HE := Hd (show Ext w w1 from hE); obtain ⟨q, hq⟩ : ∃ q, signsL l = q := ⟨_, rfl⟩; rw [hq] at hA; have hql : q.length ≤ 500000 := by have := signsF_len l l.length 0; have := HL.out; rw [← hq]; unfold signsL; omega
 obtain ⟨a, c, rfl⟩ := row_len hA; have HA := Hd hA; have HQQ := Hd hq; clear hA hE hq; go_wp2_with fail; go_loop [4] (fun i => ∃ k : Nat, k ≤ q.length ∧ i = .int .i64 k ∧ Hid (∀ j (hj : j < q.length), j < k → q[j].broken = false)) (fun i => q.length - (intOf i).toNat)
 case atStart => exact ⟨0, Nat.zero_le _, rfl, Hd fun j _ h => absurd h (by omega)⟩
 case round =>
  obtain ⟨k, hk, rfl, HB⟩ := hrel; by_cases hlt : k < q.length
  · obtain ⟨g, o, rfl, hc, -, d3⟩ := sg_at HA.out k hlt
    have g1 : (k : Int) < (q.length : Int) := by omega
    have g2 : ¬ (k : Int) < 0 := by omega
    clear hc; cases hb : q[k].broken
    · rw [hb] at d3
      have HBK := Hd hb; clear hb; go_wp2_with fail; go_round
      case rel => exact ⟨k + 1, by omega, by go_num, Hd fun j hj h => by
       by_cases e : j = k
       · subst e; exact HBK.out
       · exact HB.out j hj (by omega)⟩
      case measure => simp [intOf]; omega
    · rw [hb] at d3
      have HQ : Hid (chk l = 130) := Hd (by
       have e := HQQ.out; subst e; exact chk_130 H0.out k hlt hb)
      clear hb; go_wp2_with fail; go_ret; exact ⟨by rw [HQ.out]; rfl, HE.out⟩
  · obtain rfl : k = q.length := by omega
    have HB1 : Hid (∀ j (hj : j < q.length), q[j].broken = false) := Hd fun j hj => HB.out j hj hj
    clear hlt hk HB; go_wp2_with fail; go_loop [5] (fun i => ∃ k : Nat, k ≤ q.length ∧ i = .int .i64 k ∧ Hid (∀ j (hj : j < q.length), j < k → q[j].bad = false)) (fun i => q.length - (intOf i).toNat)
    case atStart => exact ⟨0, Nat.zero_le _, rfl, Hd fun j _ h => absurd h (by omega)⟩
    case round =>
     obtain ⟨k, hk, rfl, HB⟩ := hrel; by_cases hlt : k < q.length
     · obtain ⟨g, o, rfl, hc, d2, -⟩ := sg_at HA.out k hlt
       have g1 : (k : Int) < (q.length : Int) := by omega
       have g2 : ¬ (k : Int) < 0 := by omega
       clear hc; obtain ⟨n, hn⟩ : ∃ n, q[k].n = n := ⟨_, rfl⟩; rw [hn] at d2; have HBK : Hid (q[k].bad = (decide (n < 32) || (decide (127 ≤ n) && decide (n ≤ 159)))) := Hd (by unfold Sg.bad; rw [hn]); clear hn; by_cases hb : n < 32 ∨ (127 ≤ n ∧ n ≤ 159)
       · have HQ : Hid (chk l = 131) := Hd (by
          have e := HQQ.out; subst e; exact chk_131 H0.out HB1.out k hlt (by rw [HBK.out]; simpa using hb))
         rcases hb with hb | ⟨hb1, hb2⟩
         · have i1 : (n : Int) < 32 := by omega
           clear hb; go_wp2_with fail; go_ret; exact ⟨by rw [HQ.out]; rfl, HE.out⟩
         · have i1 : ¬ (n : Int) < 32 := by omega
           have i2 : (127 : Int) ≤ (n : Int) := by omega
           have i3 : (n : Int) ≤ 159 := by omega
           clear hb1 hb2; go_wp2_with fail; go_ret; exact ⟨by rw [HQ.out]; rfl, HE.out⟩
       · have HBN : Hid (q[k].bad = false) := Hd (by rw [HBK.out]; simp; omega)
         have i1 : ¬ (n : Int) < 32 := by omega
         by_cases hb1 : n < 127
         · have i2 : ¬ (127 : Int) ≤ (n : Int) := by omega
           clear hb hb1; go_wp2_with fail; go_round
           case rel => exact ⟨k + 1, by omega, by go_num, Hd fun j hj h => by
            by_cases e : j = k
            · subst e; exact HBN.out
            · exact HB.out j hj (by omega)⟩
           case measure => simp [intOf]; omega
         · have i2 : (127 : Int) ≤ (n : Int) := by omega
           have i3 : ¬ (n : Int) ≤ 159 := by omega
           clear hb hb1; go_wp2_with fail; go_round
           case rel => exact ⟨k + 1, by omega, by go_num, Hd fun j hj h => by
            by_cases e : j = k
            · subst e; exact HBN.out
            · exact HB.out j hj (by omega)⟩
           case measure => simp [intOf]; omega
     · obtain rfl : k = q.length := by omega
       have HC : Hid (chk l = if blankB l = true then 132 else 0) := Hd (by
        have e := HQQ.out; subst e; exact chk_rest H0.out HB1.out fun j hj => HB.out j hj hj)
       clear hlt hk HB HB1; by_cases hn : l.length = 0
       · obtain rfl : l = [] := List.eq_nil_of_length_eq_zero hn
         have HQ : Hid (chk [] = 132) := Hd (by rw [HC.out]; rfl); have g3 : (((([] : List UInt8).length : Nat) : Int) == 0) = true := rfl; clear hn; go_wp2_with fail; go_ret; exact ⟨by rw [HQ.out]; rfl, HE.out⟩
       · have g3 : ((l.length : Int) == 0) = false := beq_eq_false_iff_ne.2 (by omega)
         have hi0 : ∀ W, (Instr.index 9 (.string (bs l)) (.int .i64 0)).run Tryz.prog W = .ok (.int .u8 ((l.getD 0 0).toNat : Int)) W := fun W => index_bs l 0 (by omega) W
         have hi1 := index_bs l (l.length - 1) (Nat.sub_lt (Nat.pos_of_ne_zero hn) Nat.one_pos); have hs1 : wrap64 ((l.length : Int) - 1) = ((l.length - 1 : Nat) : Int) := w64 (x := (l.length : Int) - 1) (y := ((l.length - 1 : Nat) : Int)) (by omega) (by omega) (by have := HL.out; omega); have hs2 : ((l.length : Int) - 1) = ((l.length - 1 : Nat) : Int) := by omega
         obtain ⟨x, hx⟩ : ∃ x, l.getD 0 0 = x := ⟨_, rfl⟩; obtain ⟨y, hy⟩ : ∃ y, l.getD (l.length - 1) 0 = y := ⟨_, rfl⟩; rw [hx] at hi0; rw [hy] at hi1; obtain ⟨m, hm⟩ : ∃ m, l.length - 1 = m := ⟨_, rfl⟩; rw [hm] at hi1 hs1 hs2
         have HBL : Hid (blankB l = ((x == 32) || (y == 32))) := Hd (by
          unfold blankB; have e1 : l.isEmpty = false := by cases l; simp at hn; rfl
          have e2 : l.head? = some x := by rw [← hx, List.getD_eq_getElem?_getD, List.head?_eq_getElem?, List.getElem?_eq_getElem (by omega)]; rfl
          have e3 : l.getLast? = some y := by rw [← hy, List.getD_eq_getElem?_getD, List.getLast?_eq_getElem?, List.getElem?_eq_getElem (by omega)]; rfl
          rw [e1, e2, e3]
          rfl)
         have kx : ∀ z : UInt8, (((z.toNat : Int)) == 32) = (z == 32) := fun z => by
          rw [Bool.eq_iff_iff]; simp only [beq_iff_eq]; constructor
          · intro h; exact UInt8.toNat_inj.1 (by show z.toNat = 32; omega)
          · intro h; subst h; rfl
         have kx1 := kx x; have ky1 := kx y; have HN := Hd hn; clear hn hx hy hm kx; cases hxe : x == 32
         · rw [hxe] at kx1 HBL
           cases hye : y == 32
           · rw [hye] at ky1 HBL
             have HQ : Hid (chk l = 0) := Hd (by rw [HC.out, HBL.out]; rfl); clear hxe hye; go_wp2_with fail; go_ret; exact ⟨by rw [HQ.out]; rfl, HE.out⟩
           · rw [hye] at ky1 HBL
             have HQ : Hid (chk l = 132) := Hd (by rw [HC.out, HBL.out]; rfl); clear hxe hye; go_wp2_with fail; go_ret; exact ⟨by rw [HQ.out]; rfl, HE.out⟩
         · rw [hxe] at kx1 HBL
           have HQ : Hid (chk l = 132) := Hd (by rw [HC.out, HBL.out]; rfl); clear hxe; go_wp2_with fail; go_ret; exact ⟨by rw [HQ.out]; rfl, HE.out⟩
end
section
open Go.RowKit Go.Shelf
theorem entry14_any (w : World) (e : En) (hl : e.text.length ≤ 500000) :
 Calls Tryz.prog 143 #[e.v] w fun r w' => r = .returned (.bool (enB e)) ∧ Ext w w' := by
 obtain ⟨kind, member, number, text⟩ := e; dsimp only at hl; have HL := Hd hl; clear hl; unfold En.v; dsimp only; by_cases m0 : 0 ≤ member
 · by_cases m1 : member < 16
   · have HX : Hid (true = memB member) := Hd (by unfold memB; rw [decide_eq_true m0, decide_eq_true m1]; rfl)
     by_cases k1 : kind = 1
     · subst k1
       rcases none_cases ⟨1, member, number, text⟩ with ⟨h1, h2, h3, h4⟩ | ⟨h1, h2, h3, h4⟩ | ⟨h1, h2, h4⟩ | ⟨h1, h4⟩
       all_goals
        have HQ : Hid (enB ⟨1, member, number, text⟩ = _) := Hd (show enB ⟨1, member, number, text⟩ = noneB ⟨1, member, number, text⟩ from rfl); have H4 := Hd h4; clear h4; dsimp only at h1; try dsimp only at h2
        try dsimp only at h3
        clear HX; try subst h1
        try subst h2
        first
        | (exfalso; omega)
        | (go_enter Tryz.func143, Tryz.ntmps143
           go_wp2_with fail; go_ret; exact ⟨by rw [HQ.out, H4.out]; rfl, (Keeps.refl _ _).alloc _⟩)
     have e1 : (kind == 1) = false := by simpa using k1
     by_cases k23 : kind = 2 ∨ kind = 3
     · have HK : Hid (enB ⟨kind, member, number, text⟩ = (memB member && aloneB ⟨kind, member, number, text⟩)) := Hd (by unfold enB; rw [if_neg k1, if_pos k23])
       rcases alone_cases ⟨kind, member, number, text⟩ with ⟨h1, h2, h3⟩ | ⟨h1, h2, h3⟩ | ⟨h1, h3⟩
       all_goals
        have H3 := Hd h3; clear h3; dsimp only at h1; try dsimp only at h2
        try subst h1
        rcases k23 with k2 | k3
        · subst k2
          go_enter Tryz.func143, Tryz.ntmps143
          go_wp2_with fail; go_ret; exact ⟨by rw [HK.out, H3.out, ← HX.out]; rfl, (Keeps.refl _ _).alloc _⟩
        · subst k3
          go_enter Tryz.func143, Tryz.ntmps143
          go_wp2_with fail; go_ret; exact ⟨by rw [HK.out, H3.out, ← HX.out]; rfl, (Keeps.refl _ _).alloc _⟩
     have k2 : ¬ kind = 2 := fun h => k23 (.inl h)
     have k3 : ¬ kind = 3 := fun h => k23 (.inr h)
     have e2 : (kind == 2) = false := by simpa using k2
     have e3 : (kind == 3) = false := by simpa using k3
     by_cases k4 : kind = 4
     case neg =>
      have e4 : (kind == 4) = false := by simpa using k4
      have HK : Hid (enB ⟨kind, member, number, text⟩ = false) := Hd (by unfold enB; rw [if_neg k1, if_neg k23, if_neg k4]); clear k1 k2 k3 k4 k23 HX; go_enter Tryz.func143, Tryz.ntmps143
      go_wp2_with fail; go_ret; exact ⟨by rw [HK.out]; rfl, (Keeps.refl _ _).alloc _⟩
     have hse : enB ⟨kind, member, number, text⟩ = (decide (1 ≤ number) && decide (number ≤ 2147483647) && (chk text == 0)) := by
      unfold enB; rw [if_neg k1, if_neg k23, if_pos k4]; unfold sayB; rw [← HX.out]; simp
     have HK := Hd hse; clear hse k1 k2 k3 k23 HX; subst k4; by_cases n1 : 1 ≤ number
     case neg =>
      have N := Hd n1; go_enter Tryz.func143, Tryz.ntmps143
      go_wp2_with fail; go_ret; exact ⟨by rw [HK.out, decide_eq_false (p := 1 ≤ number) (by have := N.out; omega)]; rfl, (Keeps.refl _ _).alloc _⟩
     by_cases n2 : number ≤ 2147483647
     case neg =>
      have N := Hd n2; go_enter Tryz.func143, Tryz.ntmps143
      go_wp2_with fail; go_ret; exact ⟨by rw [HK.out, decide_eq_false (p := number ≤ 2147483647) (by have := N.out; omega)]; simp, (Keeps.refl _ _).alloc _⟩
     have HN := Hd (And.intro n1 n2); have HM := Hd (Mem.start0 w); go_enter Tryz.func143, Tryz.ntmps143
     have fM := HM.out.fa; go_wp2_with fail; all_goals clear fM
     refine nxt HM fun w0 M => ?_
     replace HM := M; clear M; refine (check03_any w0 text HL.out).mono ?_; rintro r w1 ⟨rfl, hE⟩; replace HM := Hd (HM.out.ext hE); clear hE; have fM := HM.out.fa; go_wp2_with fail; all_goals clear fM
     go_ret; refine ⟨?_, HM.out.extTo⟩; rw [HK.out, decide_eq_true HN.out.1, decide_eq_true HN.out.2]
     have : ((chk text : Int) == 0) = (chk text == 0) := by
      rw [Bool.eq_iff_iff]; simp
     simp [this]
   · have HX : Hid (false = memB member) := Hd (by unfold memB; rw [decide_eq_false m1]; simp)
     by_cases k1 : kind = 1
     · subst k1
       rcases none_cases ⟨1, member, number, text⟩ with ⟨h1, h2, h3, h4⟩ | ⟨h1, h2, h3, h4⟩ | ⟨h1, h2, h4⟩ | ⟨h1, h4⟩
       all_goals
        have HQ : Hid (enB ⟨1, member, number, text⟩ = _) := Hd (show enB ⟨1, member, number, text⟩ = noneB ⟨1, member, number, text⟩ from rfl); have H4 := Hd h4; clear h4; dsimp only at h1; try dsimp only at h2
        try dsimp only at h3
        clear HX; try subst h1
        try subst h2
        first
        | (exfalso; omega)
        | (go_enter Tryz.func143, Tryz.ntmps143
           go_wp2_with fail; go_ret; exact ⟨by rw [HQ.out, H4.out]; rfl, (Keeps.refl _ _).alloc _⟩)
     have e1 : (kind == 1) = false := by simpa using k1
     by_cases k23 : kind = 2 ∨ kind = 3
     · have HK : Hid (enB ⟨kind, member, number, text⟩ = (memB member && aloneB ⟨kind, member, number, text⟩)) := Hd (by unfold enB; rw [if_neg k1, if_pos k23])
       rcases alone_cases ⟨kind, member, number, text⟩ with ⟨h1, h2, h3⟩ | ⟨h1, h2, h3⟩ | ⟨h1, h3⟩
       all_goals
        have H3 := Hd h3; clear h3; dsimp only at h1; try dsimp only at h2
        try subst h1
        rcases k23 with k2 | k3
        · subst k2
          go_enter Tryz.func143, Tryz.ntmps143
          go_wp2_with fail; go_ret; exact ⟨by rw [HK.out, H3.out, ← HX.out]; rfl, (Keeps.refl _ _).alloc _⟩
        · subst k3
          go_enter Tryz.func143, Tryz.ntmps143
          go_wp2_with fail; go_ret; exact ⟨by rw [HK.out, H3.out, ← HX.out]; rfl, (Keeps.refl _ _).alloc _⟩
     have k2 : ¬ kind = 2 := fun h => k23 (.inl h)
     have k3 : ¬ kind = 3 := fun h => k23 (.inr h)
     have e2 : (kind == 2) = false := by simpa using k2
     have e3 : (kind == 3) = false := by simpa using k3
     by_cases k4 : kind = 4
     case neg =>
      have e4 : (kind == 4) = false := by simpa using k4
      have HK : Hid (enB ⟨kind, member, number, text⟩ = false) := Hd (by unfold enB; rw [if_neg k1, if_neg k23, if_neg k4]); clear k1 k2 k3 k4 k23 HX; go_enter Tryz.func143, Tryz.ntmps143
      go_wp2_with fail; go_ret; exact ⟨by rw [HK.out]; rfl, (Keeps.refl _ _).alloc _⟩
     have HK : Hid (enB ⟨kind, member, number, text⟩ = false) := Hd (by unfold enB; rw [if_neg k1, if_neg k23, if_pos k4]; unfold sayB; rw [← HX.out]; simp); clear k1 k2 k3 k23 HX; subst k4; go_enter Tryz.func143, Tryz.ntmps143
     go_wp2_with fail; go_ret; exact ⟨by rw [HK.out]; rfl, (Keeps.refl _ _).alloc _⟩
 · have HX : Hid (false = memB member) := Hd (by unfold memB; rw [decide_eq_false m0]; simp)
   by_cases k1 : kind = 1
   · subst k1
     rcases none_cases ⟨1, member, number, text⟩ with ⟨h1, h2, h3, h4⟩ | ⟨h1, h2, h3, h4⟩ | ⟨h1, h2, h4⟩ | ⟨h1, h4⟩
     all_goals
      have HQ : Hid (enB ⟨1, member, number, text⟩ = _) := Hd (show enB ⟨1, member, number, text⟩ = noneB ⟨1, member, number, text⟩ from rfl); have H4 := Hd h4; clear h4; dsimp only at h1; try dsimp only at h2
      try dsimp only at h3
      clear HX; try subst h1
      try subst h2
      first
      | (exfalso; omega)
      | (go_enter Tryz.func143, Tryz.ntmps143
         go_wp2_with fail; go_ret; exact ⟨by rw [HQ.out, H4.out]; rfl, (Keeps.refl _ _).alloc _⟩)
   have e1 : (kind == 1) = false := by simpa using k1
   by_cases k23 : kind = 2 ∨ kind = 3
   · have HK : Hid (enB ⟨kind, member, number, text⟩ = (memB member && aloneB ⟨kind, member, number, text⟩)) := Hd (by unfold enB; rw [if_neg k1, if_pos k23])
     rcases alone_cases ⟨kind, member, number, text⟩ with ⟨h1, h2, h3⟩ | ⟨h1, h2, h3⟩ | ⟨h1, h3⟩
     all_goals
      have H3 := Hd h3; clear h3; dsimp only at h1; try dsimp only at h2
      try subst h1
      rcases k23 with k2 | k3
      · subst k2
        go_enter Tryz.func143, Tryz.ntmps143
        go_wp2_with fail; go_ret; exact ⟨by rw [HK.out, H3.out, ← HX.out]; rfl, (Keeps.refl _ _).alloc _⟩
      · subst k3
        go_enter Tryz.func143, Tryz.ntmps143
        go_wp2_with fail; go_ret; exact ⟨by rw [HK.out, H3.out, ← HX.out]; rfl, (Keeps.refl _ _).alloc _⟩
   have k2 : ¬ kind = 2 := fun h => k23 (.inl h)
   have k3 : ¬ kind = 3 := fun h => k23 (.inr h)
   have e2 : (kind == 2) = false := by simpa using k2
   have e3 : (kind == 3) = false := by simpa using k3
   by_cases k4 : kind = 4
   case neg =>
    have e4 : (kind == 4) = false := by simpa using k4
    have HK : Hid (enB ⟨kind, member, number, text⟩ = false) := Hd (by unfold enB; rw [if_neg k1, if_neg k23, if_neg k4]); clear k1 k2 k3 k4 k23 HX; go_enter Tryz.func143, Tryz.ntmps143
    go_wp2_with fail; go_ret; exact ⟨by rw [HK.out]; rfl, (Keeps.refl _ _).alloc _⟩
   have HK : Hid (enB ⟨kind, member, number, text⟩ = false) := Hd (by unfold enB; rw [if_neg k1, if_neg k23, if_pos k4]; unfold sayB; rw [← HX.out]; simp); clear k1 k2 k3 k23 HX; subst k4; go_enter Tryz.func143, Tryz.ntmps143
   go_wp2_with fail; go_ret; exact ⟨by rw [HK.out]; rfl, (Keeps.refl _ _).alloc _⟩
end
end Go.Proofs.YtoadjbgpfihoiaaGreatDoor
