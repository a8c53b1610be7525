/- The walk of RingMain's loop: its function returns true, and of what was there nothing turns. Conditions: its argument lies as 'Acts' says, and is few. -/
import Derived.Test.YtocjnieehogcbaaRingP
set_option linter.unusedVariables false
set_option maxHeartbeats 400000
namespace Go.Proofs.Ytocjnieehogcbaa
open Go.RowKit

structure RM (w wr : World) (b m k : Nat) (pv : Value) (R : AR) (put : List (List UInt8)) : Prop where
  ring : RingX wr (Own pv) b R
  most : R.most = m
  lost : R.lost ≤ k
  small : ∀ x ∈ R.items, x.bytes.length ≤ 200
  win : Win wr w.heap.size 1 pv put.length (strs put)
  own : ¬ Own pv b
  eq : ms R.items = put
  ext : Ext w wr
section
variable {w wr w1 : World} {b m k : Nat} {pv : Value} {R R' : AR} {put : List (List UInt8)}
theorem RM.grown (h : RM w wr b m k pv R put) (hE : Ext wr w1) : RM w w1 b m k pv R put :=
  ⟨h.ring.ext hE, h.most, h.lost, h.small, h.win.ext hE, h.own, h.eq, h.ext.ext hE⟩
theorem RM.turn (h : RM w wr b m k pv R put) (hb : w.heap.size ≤ b) (hr : RingX w1 (Own pv) b R') (hk : Keeps (OneB b) wr w1) (hm : R'.most = R.most) (hl : R'.lost ≤ R.lost + 1) (hs : ∀ x ∈ R'.items, x.bytes.length ≤ 200) (he : ms R'.items = ms R.items) : RM w w1 b m (k + 1) pv R' put :=
  ⟨hr, hm.trans h.most, by have := h.lost; omega, hs, h.win.keeps hk fun g hg h2 => by unfold OneB at h2; subst h2; exact h.own hg, h.own, he.trans h.eq, h.ext.then hk fun i hi h2 => by unfold OneB at h2; omega⟩
theorem RM.push {w3 w4 w5 w6 : World} {v6 : Value} {bt : List UInt8} (h : RM w w3 b m k pv R put) (hb : w.heap.size ≤ b) (hr : RingX w4 (Own pv) b R') (hk4 : Keeps (OneB b) w3 w4) (he5 : Ext w4 w5) (hk6 : Keeps (Own pv) w5 w6)
    (hwin : Win w6 w.heap.size 1 v6 (put ++ [bt]).length (strs (put ++ [bt]))) (hown : v6.ownBlock = pv.ownBlock ∨ v6.ownBlock = some w5.heap.size) (hm : R'.most = R.most) (hl : R'.lost ≤ R.lost + 1) (hs : ∀ x ∈ R'.items, x.bytes.length ≤ 200)
    (he : ms R'.items = ms R.items ++ [bt]) : RM w w6 b m (k + 1) v6 R' (put ++ [bt]) := by
  have hb5 := (hr.ext he5).lt
  refine ⟨(hr.ext he5).grow hk6 h.own fun g hg => ?_, hm.trans h.most, by have := h.lost; omega, hs, hwin, fun hg => ?_, by rw [he, h.eq], ?_⟩
  · unfold Own at hg ⊢
    rcases hown with h1 | h1
    · exact .inl (h1 ▸ hg)
    · rw [h1] at hg; cases hg; exact .inr (Nat.le_refl _)
  · unfold Own at hg
    rcases hown with h1 | h1
    · rw [h1] at hg; exact h.own hg
    · rw [h1] at hg; cases hg; omega
  · have h1 : Ext w w5 := (h.ext.then hk4 (fun i hi h2 => by unfold OneB at h2; omega)).ext he5
    exact h1.then hk6 fun i hi h2 => by have := (h.win.block i h2).1; omega
theorem RM.next (h : RM w wr b m k pv R put) : RM w wr b m (k + 1) pv R put := ⟨h.ring, h.most, by have := h.lost; omega, h.small, h.win, h.own, h.eq, h.ext⟩
theorem RM.cleared (h : RM w wr b m k pv R put) (hb : w.heap.size ≤ b) (hr : RingX w1 (Own pv) b R') (hk : Keeps (OneB b) wr w1) (hm : R'.most = R.most) (hl : R'.lost = R.lost) (hi : R'.items = []) : RM w w1 b m (k + 1) (.slice none 0 0) R' [] :=
  ⟨hr.grow (Keeps.refl _ _) h.own (fun k hk => by cases hk), hm.trans h.most, by have := h.lost; omega, (by rw [hi]; simp), Win.nil _ _ _, (fun h => by cases h), (by rw [hi]; rfl), h.ext.then hk fun i hi h2 => by unfold OneB at h2; omega⟩
theorem RM.pop {g o p cp : Nat} {x : List UInt8} {r : List (List UInt8)} (h : RM w wr b m k (.slice (some ⟨g, o, none⟩) p cp) R (x :: r)) (hp : (x :: r).length = p) (hb : w.heap.size ≤ b) (hr : RingX w1 (Own (.slice (some ⟨g, o, none⟩) p cp)) b R') (hk : Keeps (OneB b) wr w1) (hm : R'.most = R.most) (hl : R'.lost = R.lost)
    (hs : ∀ x ∈ R'.items, x.bytes.length ≤ 200) (he : ms R'.items = r) : RM w w1 b m (k + 1) (.slice (if cp = 1 then some ⟨g, o, none⟩ else some ⟨g, o + 1, none⟩) (p - 1) (cp - 1)) R' r := by
  subst hp
  have ho : Own (.slice (if cp = 1 then some ⟨g, o, none⟩ else some ⟨g, o + 1, none⟩) ((x :: r).length - 1) (cp - 1)) = Own (.slice (some ⟨g, o, none⟩) (x :: r).length cp) := by
    funext k; unfold Own; rw [ownBlock_ite]; rfl
  refine ⟨by rw [ho]; exact hr, hm.trans h.most, by have := h.lost; omega, hs, ?_, by rw [ho]; exact h.own, he, h.ext.then hk fun i hi h2 => by unfold OneB at h2; omega⟩
  have h1 := (h.win.drop' 1 (by simp)).keeps hk fun g' hg' h2 => by rw [ownBlock_ite] at hg'; unfold OneB at h2; subst h2; exact h.own hg'
  simpa [strs] using h1
theorem RM.len (h : RM w wr b m k pv R put) : put.length = mains R.items := by rw [← h.eq, ms_length]
end
theorem mains_sides : ∀ l : List It, mains l + sides l = l.length
  | [] => rfl
  | x :: l => by
    have := mains_sides l
    cases hs : x.side <;> simp [mains, sides, hs] at * <;> omega

set_option maxRecDepth 10000 in
theorem rmain_in {A : Nat → Prop} (w : World) (m : Nat) (v : Value) (l : List Ac) (h : Acts w A v l) (hn : l.length ≤ 9223372036854775807) (hb : ∀ x ∈ l, x.item.bytes.length ≤ 9223372036854775807) (hf : fewOf l 80 = true) (h1 : 1 ≤ m) (h2 : m ≤ 64) (hA : ∀ k, A k → k < w.heap.size) :
    Calls Try.prog 4 #[.int .i64 (m : Int), v] w fun e w' => e = .returned (.bool true) ∧ Ext w w' := by
  have HA := Lib.hid h
  have HB := Lib.hid hb
  have HAl := Lib.hid hA
  obtain ⟨hs200, hl80⟩ := few_spec hf
  have HS := Lib.hid hs200
  obtain ⟨a, c, rfl, hat⟩ := h.at
  have HAT := Lib.hid hat
  clear h hb hA hat hs200
  go_enter Try.func4, Try.ntmps4
  go_wp2_with fail
  refine (few_any _ _ l 80 HA.out hn HB.out).mono ?_
  rintro e w' ⟨rfl, rfl⟩
  go_wp2_with fail
  refine (new_x (Own (.slice none 0 0)) w m h1 h2 (fun _ h => by cases h) _ rfl).mono ?_
  rintro e w1 ⟨b, rfl, hr, hE, hbw⟩
  have H1 : Hid (RM w w1 b m 0 (.slice none 0 0) ⟨m, 0, []⟩ []) := ⟨hr, rfl, Nat.zero_le _, (by simp), Win.nil _ _ _, (fun h => by cases h), rfl, hE⟩
  have HBW := Lib.hid hbw
  clear hr hE hbw
  go_wp2_with fail
  refine (num_any _ _).mono ?_
  rintro e w' ⟨rfl, rfl⟩
  go_wp2_with fail
  go_loopw [7, 8] (fun pv i wr => ∃ (k : Nat) (R : AR) (put : List (List UInt8)), k ≤ l.length ∧ i = .int .i64 k ∧ Hid (RM w wr b m k pv R put)) (fun _ i _ => l.length - (intOf i).toNat)
  case atStart => exact ⟨0, _, _, Nat.zero_le _, rfl, H1⟩
  case round =>
    obtain ⟨k, R, put, hk, rfl, hh⟩ := hrel
    clear H1
    obtain ⟨ap, cp, rfl⟩ := hh.out.win.len
    obtain ⟨p, hp⟩ : ∃ p, mains R.items = p := ⟨_, rfl⟩
    obtain ⟨q, hq⟩ : ∃ q, sides R.items = q := ⟨_, rfl⟩
    have hpq := mains_sides R.items
    have hRl := hh.out.ring.le
    have hmo := hh.out.most
    have hpl := hh.out.len
    rw [hp] at hpl
    obtain ⟨hRl1, hRl2, hRl3⟩ := hRl
    rw [hp, hq] at hpq
    rw [hmo] at hRl1
    have HP := Lib.hid hp
    have HQ := Lib.hid hq
    have g1 : ¬ ((m : Int) < (p : Int) + q) := by omega
    have hnb : put.length = p := hpl
    obtain ⟨n, rfl⟩ : ∃ n, n = put.length := ⟨_, rfl⟩
    have HPQ := Lib.hid hpq
    have HRL := Lib.hid hRl1
    have HMO := Lib.hid hmo
    rw [hnb] at hh ⊢
    clear hp hq hpl hmo hRl2 hRl3
    by_cases hlt : k < l.length
    · have hsm := hh.out.small
      have HSM := Lib.hid hsm
      clear hsm
      go_wp2_with fail
      refine (len_x _ b R hh.out.ring (fun x hx => by have := HSM.out x hx; omega)).mono ?_
      rintro e w2 ⟨rfl, hE⟩
      rw [HP.out, HQ.out]
      have HH2 := Lib.hid (hh.out.grown hE)
      clear hh hE
      obtain ⟨bl, ol, rfl, hc, hAb, i1, i2, i3, bv, i4, i5⟩ := HAT.out k hlt
      generalize hx : l[k] = x at i1 i2 i3 i4 i5
      have hx200 := HS.out x (hx ▸ List.getElem_mem hlt)
      clear hx
      obtain ⟨wh, ⟨sd, ky, bt⟩⟩ := x
      dsimp only at i1 i2 i3 i4 i5 hx200
      have hEw := HH2.out.ext
      have j1 := Ext.cell hEw i1
      have j2 := Ext.cell hEw i2
      have j3 := Ext.cell hEw i3
      have j4 := Ext.cell hEw i4
      have hblw : bl < w2.heap.size := Nat.lt_of_lt_of_le (HAl.out _ hAb) hEw.size
      have HI2 := Lib.hid (i5.ext hEw)
      obtain ⟨ab, cb, rfl⟩ := i5.len
      clear i1 i2 i3 i4 i5 hEw HP HQ
      have hpq2 : ¬ ((m : Int) < (p : Int) + q) := by omega
      have hbw2 := HH2.out.ring.lt
      by_cases hw0 : wh = 0
      · subst hw0
        go_wp2_with fail
        have bx0 := (Box.new w2 31 [.bool sd, .int .i64 ky, .slice ab bt.length cb])
        have ex : Ext w2 (w2.alloc (Obj.cells #[.bool sd, .int .i64 ky, .slice ab bt.length cb] 31)) := ((Keeps.refl NoB w2).alloc _)
        have sx : (w2.alloc (Obj.cells #[.bool sd, .int .i64 ky, .slice ab bt.length cb] 31)).heap.size = w2.heap.size + 1 := by simp
        generalize (w2.alloc (Obj.cells #[.bool sd, .int .i64 ky, .slice ab bt.length cb] 31)) = w3 at bx0 ex sx ⊢
        have Sx := Lib.hid sx
        clear sx
        have HH3 := Lib.hid (HH2.out.grown ex)
        have HI3 := Lib.hid (HI2.out.ext ex)
        obtain ⟨c0, z0⟩ := bx0.reads
        have l0 := bx0.lt
        have B3 := Lib.hid bx0
        clear j1 j2 j3 j4 ex bx0
        obtain ⟨r, hput⟩ : ∃ r, R.put ⟨sd, ky, bt⟩ = r := ⟨_, rfl⟩
        obtain ⟨R', n1, e1⟩ := r
        have pm := put_main R ⟨sd, ky, bt⟩ (by rw [HMO.out]; exact HRL.out) (by dsimp only; omega)
        rw [hput] at pm
        have PM := Lib.hid pm
        have hn1 := pm.small
        dsimp only at hn1
        have HPUT := Lib.hid hput
        obtain ⟨ze, hze⟩ : ∃ z : Int, z = (e1 : Int) := ⟨_, rfl⟩
        clear hput pm
        go_wp2_with fail
        refine (put_x (N := Own (.slice ap p cp)) w3 b R R' ⟨sd, ky, bt⟩ _ n1 e1 _ ze HPUT.out rfl hze HH3.out.ring ⟨_, rfl, HI3.out⟩ (fun h => by have := HAl.out b h; have := HBW.out; omega) (fun g hg => (HH3.out.win.block g hg).2) (by dsimp only; omega) (by have := HH3.out.lost; omega)).mono ?_
        rintro e w4 ⟨rfl, hr, hk4⟩
        have HR4 := Lib.hid hr
        have HK4 := Lib.hid hk4
        have B4 := Lib.hid (B3.out.keeps hk4 (by unfold OneB; omega))
        have hI4 := HI3.out.keeps hk4 (fun g hg h2 => by have := HAl.out g hg; have := HBW.out; unfold OneB at h2; omega)
        have HI4 := Lib.hid hI4
        have hconv := hI4.str
        obtain ⟨c4, z4⟩ := B4.out.reads
        have l4 := B4.out.lt
        clear c0 z0 hr hk4 B3 hI4 HPUT
        by_cases hmk : sd = false ∧ ky = 0
        · obtain ⟨rfl, rfl⟩ := hmk
          by_cases hpm : p < m
          · obtain ⟨he1, hms⟩ := PM.out.got rfl rfl (by rw [HMO.out, ← ms_length, HH3.out.eq, hnb]; exact hpm)
            dsimp only at he1 hms
            obtain rfl : ze = 0 := by rw [hze, he1]; rfl
            have HMS := Lib.hid hms
            have hwin4 := HH3.out.win.keeps HK4.out (fun g hg h2 => by unfold OneB at h2; subst h2; exact HH3.out.own hg)
            have he5 : Ext w4 (w4.alloc (Obj.cells #[.string (bs bt)] 9)) := (Keeps.refl _ _).alloc _
            rw [hnb] at hwin4
            obtain ⟨v6, w6, hr6, hwin6, hk6, hown6⟩ := append_str (w4.alloc (Obj.cells #[.string (bs bt)] 9)) w.heap.size (.slice ap p cp) put bt 40 (by rw [hnb]; exact hwin4.ext he5) (by omega) (by
              have h1 := HH3.out.ext.size
              have h2 := HK4.out.size
              have h3 := he5.size
              omega) w4.heap.size (by rw [(Box.new w4 9 [.string (bs bt)]).reads.1]; rfl)
            have HW6 := Lib.hid hwin6
            have HK6 := Lib.hid hk6
            have HO6 := Lib.hid hown6
            have HE5 := Lib.hid he5
            clear hms he1 hze hwin4 he5 hwin6 hk6 hown6
            go_wp2_with fail
            refine (num_any _ _).mono ?_
            rintro e w' ⟨rfl, rfl⟩
            go_wp2_with fail
            refine (num_any _ _).mono ?_
            rintro e w' ⟨rfl, rfl⟩
            go_wp2_with (at_builtin; refine wpList_append_ran rfl _ _ hr6 rfl rfl rfl ?_)
            go_roundw
            case rel =>
              exact ⟨k + 1, R', put ++ [bt], by omega, by go_num,
                HH3.out.push HBW.out HR4.out HK4.out HE5.out HK6.out HW6.out HO6.out PM.out.most PM.out.lost (fun y hy => by
                  rcases PM.out.sub y hy with h | h
                  · exact HSM.out y h
                  · rw [h]; exact hx200) HMS.out⟩
            case measure => simp [intOf]; omega
          · obtain ⟨he1, hms⟩ := PM.out.full rfl rfl (by rw [HMO.out, ← ms_length, HH3.out.eq, hnb]; exact hpm)
            dsimp only at he1 hms
            obtain rfl : ze = 350 := by rw [hze, he1]; rfl
            have HMS := Lib.hid hms
            clear hms he1 hze
            go_wp2_with fail
            refine (num_any _ _).mono ?_
            rintro e w' ⟨rfl, rfl⟩
            go_wp2_with fail
            refine (num_any _ _).mono ?_
            rintro e w' ⟨rfl, rfl⟩
            go_wp2_with fail
            go_roundw
            case rel =>
              exact ⟨k + 1, R', put, by omega, by go_num, by
                have := HH3.out.turn HBW.out HR4.out HK4.out PM.out.most PM.out.lost (fun y hy => by
                  rcases PM.out.sub y hy with h | h
                  · exact HSM.out y h
                  · rw [h]; exact hx200) HMS.out
                exact this⟩
            case measure => simp [intOf]; omega
        · have HMK := Lib.hid hmk
          have HOT := Lib.hid (PM.out.other hmk)
          cases sd with
          | true =>
            go_wp2_with fail
            go_roundw
            case rel =>
              exact ⟨k + 1, R', put, by omega, by go_num, by
                have := HH3.out.turn HBW.out HR4.out HK4.out PM.out.most PM.out.lost (fun y hy => by
                  rcases PM.out.sub y hy with h | h
                  · exact HSM.out y h
                  · rw [h]; exact hx200) HOT.out
                exact this⟩
            case measure => simp [intOf]; omega
          | false =>
            have hky : (ky == 0) = false := by
              rw [beq_eq_false_iff_ne]; intro h; exact hmk ⟨rfl, h⟩
            go_wp2_with fail
            go_roundw
            case rel =>
              exact ⟨k + 1, R', put, by omega, by go_num, by
                have := HH3.out.turn HBW.out HR4.out HK4.out PM.out.most PM.out.lost (fun y hy => by
                  rcases PM.out.sub y hy with h | h
                  · exact HSM.out y h
                  · rw [h]; exact hx200) HOT.out
                exact this⟩
            case measure => simp [intOf]; omega
      · have hw0b : (wh == 0) = false := beq_eq_false_iff_ne.2 hw0
        by_cases hw1 : wh = 1
        · subst hw1
          obtain ⟨rm, rl, its⟩ := R
          cases its with
          | nil =>
            have hgt : ¬ ((0 : Int) < (p : Int) + q) := by simp at hpq; omega
            clear hpq hRl1
            go_wp2_with fail
            refine (take_x0 w2 b rm rl HH2.out.ring).mono ?_
            rintro e w3 ⟨rfl, hE⟩
            have HH3 := Lib.hid ((HH2.out.grown (hE.alloc (Obj.cells #[.bool false, .int .i64 0, .slice none 0 0] 31))).next)
            clear hE
            go_wp2_with fail
            go_roundw
            case rel => exact ⟨k + 1, _, put, by omega, by go_num, HH3.out⟩
            case measure => simp [intOf]; omega
          | cons x r =>
            have hgt : ((0 : Int) < (p : Int) + q) := by simp at hpq; omega
            clear hpq hRl1
            go_wp2_with fail
            refine (take_x w2 b rm rl x r HH2.out.ring).mono ?_
            rintro e w3 ⟨v3, rfl, ⟨bv3, rfl, hb3⟩, hr, hk3⟩
            have HR3 := Lib.hid hr
            have HK3 := Lib.hid hk3
            obtain ⟨xs, xk, xb⟩ := x
            dsimp only at hb3
            obtain ⟨a3, c3, rfl⟩ := hb3.len
            have HB3 := Lib.hid hb3
            clear hr hk3 hb3
            cases xs with
            | true =>
              go_wp2_with fail
              go_roundw
              case rel =>
                exact ⟨k + 1, ⟨rm, rl, r⟩, put, by omega, by go_num, HH2.out.turn HBW.out (HR3.out.ext ((Keeps.refl _ _).alloc _)) (HK3.out.alloc _) rfl (by dsimp only; omega) (fun y hy => HSM.out y (.tail _ hy)) (ms_side _ _ rfl).symm⟩
              case measure => simp [intOf]; omega
            | false =>
              go_wp2_with fail
              have bx0 := (Box.new w3 31 [.bool false, .int .i64 xk, .slice a3 xb.length c3])
              have ex : Ext w3 (w3.alloc (Obj.cells #[.bool false, .int .i64 xk, .slice a3 xb.length c3] 31)) := ((Keeps.refl NoB w3).alloc _)
              have sx : (w3.alloc (Obj.cells #[.bool false, .int .i64 xk, .slice a3 xb.length c3] 31)).heap.size = w3.heap.size + 1 := by simp
              generalize (w3.alloc (Obj.cells #[.bool false, .int .i64 xk, .slice a3 xb.length c3] 31)) = w4 at bx0 ex sx ⊢
              have Sx := Lib.hid sx
              clear sx
              have HR4 := Lib.hid (HR3.out.ext ex)
              have HK4 := Lib.hid (HK3.out.ext ex)
              have hB4 := HB3.out.ext ex
              obtain ⟨c0, z0⟩ := bx0.reads
              have l0 := bx0.lt
              have hconv := (hB4.ext (Ext.drew0 _)).str
              clear ex bx0 hB4
              obtain ⟨pr, hpr⟩ : ∃ pr, put = xb :: pr := ⟨ms r, by rw [← HH2.out.eq]; simp [ms]⟩
              subst hpr
              have hms : ms r = pr := by have := HH2.out.eq; simp [ms] at this; exact this
              have hp0 : 0 < p := by rw [← hnb]; simp
              have hpz : ((p : Int) == 0) = false := by rw [beq_eq_false_iff_ne]; omega
              have hwf := HH2.out.win
              rw [hnb] at hwf
              obtain ⟨g, o, cap, hpv, hg1, hg2, hg3, hg4⟩ := hwf.form hp0
              cases hpv
              have hc4 : w4.cell? ⟨g, o, none⟩ = some (.string (bs xb)) := by
                have := hg4 0 (.string (bs xb)) rfl
                exact HK4.out.cell (fun h2 => by unfold OneB at h2; subst h2; exact HH2.out.own rfl) this
              have hg4l : g < w4.heap.size := Nat.lt_of_lt_of_le hg2 HK4.out.size
              have HMS := Lib.hid hms
              clear hms hwf hg4
              have hE0 : Keeps NoB w4 w4.drew := (Keeps.refl _ _).drew
              refine wp_region_plan [(0, 0), (0, 1), (0, 2), (0, 3), (0, 4), (0, 5), (3, 6), (0, 7), (3, 8), (3, 9), (0, 10), (0, 11)] [] [] [] (ClsE w4) (by kernel_rfl) (by kernel_rfl) (by kernel_rfl) rfl rfl (ClsE.of hE0) (fun _ _ _ d _ h => by cases d <;> exact h) ?_; simp only [planL, List.getElem?_toArray, List.getElem?_cons_succ, List.getElem?_cons_zero]
              refine plan_pure rfl (fun K hK => quiet_move' _ rfl (hK _ ?_)); clear hK K; simp only [Act.put, Act.eval, Array.getD_eq_getD_getElem?, List.getElem?_toArray, List.getElem?_cons_zero, List.getElem?_cons_succ, Option.getD_some, List.setIfInBounds_toArray, List.set_cons_zero, List.set_cons_succ]
              refine plan_pure rfl (fun K hK => quiet_run (v := ?_) (fun W _ => ?_) (hK _ ?_)); rotate_left; (go_simp <;> with_reducible rfl); clear hK K; simp only [Act.put, List.setIfInBounds_toArray, List.set_cons_zero, List.set_cons_succ]
              refine plan_pure rfl (fun K hK => quiet_run (v := ?_) (fun W _ => ?_) (hK _ ?_)); rotate_left; (go_simp <;> with_reducible rfl); clear hK K; simp only [Act.put, List.setIfInBounds_toArray, List.set_cons_zero, List.set_cons_succ]
              refine plan_pure rfl (fun K hK => quiet_move' _ rfl (hK _ ?_)); clear hK K; simp only [Act.put, Act.eval, Array.getD_eq_getD_getElem?, List.getElem?_toArray, List.getElem?_cons_zero, List.getElem?_cons_succ, Option.getD_some, List.setIfInBounds_toArray, List.set_cons_zero, List.set_cons_succ]
              first
              | (refine plan_skip rfl ?_; simp only [Act.put, List.setIfInBounds_toArray, List.set_cons_zero, List.set_cons_succ])
              | (refine plan_pure rfl (fun K hK => quiet_move' _ rfl (hK _ ?_)); clear hK K; simp only [Act.put, Act.eval, Array.getD_eq_getD_getElem?, List.getElem?_toArray, List.getElem?_cons_zero, List.getElem?_cons_succ, Option.getD_some, List.setIfInBounds_toArray, List.set_cons_zero, List.set_cons_succ])
              first
              | (refine plan_skip rfl ?_; simp only [Act.put, List.setIfInBounds_toArray, List.set_cons_zero, List.set_cons_succ])
              | (refine plan_pure rfl (fun K hK => quiet_run (v := ?_) (fun W _ => ?_) (hK _ ?_)); rotate_left; (go_simp <;> with_reducible rfl); clear hK K; simp only [Act.put, List.setIfInBounds_toArray, List.set_cons_zero, List.set_cons_succ])
              first
              | (refine plan_skip rfl ?_; simp only [Act.put, List.setIfInBounds_toArray, List.set_cons_zero, List.set_cons_succ])
              | (refine plan_exact rfl (fun K hK => quiet_runX (v := ?_) ?_ (hK _ ?_)); rotate_left; (go_simp <;> with_reducible rfl); clear hK K; simp only [Act.put, List.setIfInBounds_toArray, List.set_cons_zero, List.set_cons_succ])
              first
              | (refine plan_skip rfl ?_; simp only [Act.put, List.setIfInBounds_toArray, List.set_cons_zero, List.set_cons_succ])
              | (refine plan_pure rfl (fun K hK => quiet_run (v := ?_) (fun W _ => ?_) (hK _ ?_)); rotate_left; (go_simp <;> with_reducible rfl); clear hK K; simp only [Act.put, List.setIfInBounds_toArray, List.set_cons_zero, List.set_cons_succ])
              first
              | (refine plan_skip rfl ?_; simp only [Act.put, List.setIfInBounds_toArray, List.set_cons_zero, List.set_cons_succ])
              | (refine plan_exact rfl (fun K hK => quiet_runX (v := ?_) ?_ (hK _ ?_)); rotate_left; (go_simp <;> with_reducible rfl); clear hK K; simp only [Act.put, List.setIfInBounds_toArray, List.set_cons_zero, List.set_cons_succ])
              first
              | (refine plan_skip rfl ?_; simp only [Act.put, List.setIfInBounds_toArray, List.set_cons_zero, List.set_cons_succ])
              | (refine plan_exact rfl (fun K hK => quiet_runX (v := ?_) ?_ (hK _ ?_)); rotate_left; (go_simp <;> with_reducible rfl); clear hK K; simp only [Act.put, List.setIfInBounds_toArray, List.set_cons_zero, List.set_cons_succ])
              first
              | (refine plan_skip rfl ?_; simp only [Act.put, List.setIfInBounds_toArray, List.set_cons_zero, List.set_cons_succ])
              | (refine plan_pure rfl (fun K hK => quiet_run (v := ?_) (fun W _ => ?_) (hK _ ?_)); rotate_left; (go_simp <;> with_reducible rfl); clear hK K; simp only [Act.put, List.setIfInBounds_toArray, List.set_cons_zero, List.set_cons_succ])
              refine plan_pure rfl (fun K hK => quiet_run (v := ?_) (fun W _ => ?_) (hK _ ?_)); rotate_left; (go_simp <;> with_reducible rfl); clear hK K; simp only [Act.put, List.setIfInBounds_toArray, List.set_cons_zero, List.set_cons_succ]
              refine plan_nil ?_; simp only [tailL, List.filterMap_nil]
              go_wp2_with fail
              go_roundw
              case rel =>
                exact ⟨k + 1, ⟨rm, rl, r⟩, pr, by omega, by go_num, HH2.out.pop hnb HBW.out (HR4.out.ext (Ext.drew0 _)) HK4.out.drew rfl rfl (fun y hy => HSM.out y (.tail _ hy)) HMS.out⟩
              case measure => simp [intOf]; omega
        · have hw1b : (wh == 1) = false := beq_eq_false_iff_ne.2 hw1
          obtain ⟨rm, rl, its⟩ := R
          go_wp2_with fail
          refine (clear_x w2 b rm rl its HH2.out.ring).mono ?_
          rintro e w3 ⟨rfl, hr, hk3⟩
          have HH3 := Lib.hid (HH2.out.cleared (R' := ⟨rm, rl, []⟩) HBW.out hr hk3 rfl rfl rfl)
          clear hr hk3
          go_wp2_with fail
          go_roundw
          case rel => exact ⟨k + 1, _, [], by omega, by go_num, HH3.out⟩
          case measure => simp [intOf]; omega
    · have HSM := Lib.hid hh.out.small
      have HRG := Lib.hid hh.out.ring
      have HEE := Lib.hid hh.out.ext
      clear hh
      go_wp2_with fail
      refine (len_x _ b R HRG.out (fun x hx => by have := HSM.out x hx; omega)).mono ?_
      rintro e w2 ⟨rfl, hE⟩
      rw [HP.out, HQ.out]
      have HR2 := Lib.hid (HRG.out.ext hE)
      have HE2 := Lib.hid (HEE.out.ext hE)
      clear hE HRG HEE
      go_wp2_with fail
      refine (room_x _ b R HR2.out (fun x hx => by have := HSM.out x hx; omega)).mono ?_
      rintro e w3 ⟨rfl, hE⟩
      rw [HP.out, HMO.out]
      have HE3 := Lib.hid (HE2.out.ext hE)
      clear hE HR2
      go_wp2_with fail
      refine (works_any _).mono ?_
      rintro e w4 ⟨rfl, hE⟩
      have HE4 := Lib.hid (HE3.out.ext hE)
      clear hE
      go_wp2_with fail
      go_ret
      exact ⟨rfl, HE4.out⟩
end Go.Proofs.Ytocjnieehogcbaa
