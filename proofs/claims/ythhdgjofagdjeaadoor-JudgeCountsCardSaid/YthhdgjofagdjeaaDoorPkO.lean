/- Texts ZDB, ZE, one behind the other. Conditions: as each says. -/
import Derived.Test.YthhdgjofagdjeaaDoorPkN
import Derived.BigFrameIn
import Derived.BigGuardIn
section
/- An arm of the walk of JudgeCounts. Conditions: its argument lies as 'Sns' says; unicode/utf8's two tables read as their initialisers lay them. -/
set_option linter.unusedVariables false
set_option linter.unusedSimpArgs false
set_option maxHeartbeats 20000000
set_option maxRecDepth 100000
namespace Go.Proofs.YthhdgjofagdjeaaDoor
open Go.RowKit Go.Shelf
attribute [local go_sem] Oper.semAt_some
theorem counts_arm1 {A : Nat → Prop} (w : World) (v : Value) (l : List Sn) (HV : Hid (Sns w A v l)) (HL : Hid (l.length ≤ 9223372036854775807)) (HA : Hid (∀ k, A k → k < w.heap.size)) (HT : Hid (Tabs w)) (HF : Hid (fewB l 60 = true)) : (counts_cut w v l HV HL HA HT HF).P1 := by
  delta counts_cut
  intro w1 w2 w3 b F K ak w4 nt wr u2 u9 u10 u32 u33 u34 u35 u36 u37 u38 u39 u40 u41 u42 u43 u44 u45 u46 u47 u48 u49 u50 u51 u52 u53 u54 u55 u56 u57 u58 u59 u60 u61 u62 u63 u64 u65 u66 u67 u68 u69 u70 u71 u72 u73 u74 u75 u76 u77 u78 u79 u80 u81 u82 u83 u84 u85 u86 u87 u88 u89 u90 u91 u92 u93 u94 u95 u96 u97 u98 u99 u100 u101 u102 u103 u104 u105 u106 u107 u108 u109 u110 u111 u112 u113 u114 u115 u116 u117 u118 u119 u120 u121 u122 u123 u124 u125 u126 u127 u128 u129 u130 u131 u132 k s tv hv hk HKP HM hlt
  obtain ⟨hfx, hfl⟩ := fewB_text HF.out
  obtain rfl : k = l.length := by omega
  rw [List.take_length] at HM HKP
  clear hlt hk hfl hfx
  have hok := sees_ok l (J0 3 4) (OkJ.new (by unfold RightC; decide) (by decide)) T0_ok
  obtain ⟨J, hJ⟩ : ∃ J, sees (J0 3 4) l = J := ⟨_, rfl⟩
  rw [hJ] at hok HM HKP
  have HOK := Lib.hid hok
  have hlen : J.T.l.length ≤ 4096 := by have := hok.1.slot; have := hok.1.slot4; omega
  have HLN := Lib.hid hlen
  have HFW := Lib.hid (show fold (W J) = J.T ∧ Steps (W J) by
    obtain ⟨es, h1, h2⟩ := HKP.out.inv.steps
    have h3 : W J = es := by unfold W; rw [h1, fold_e]
    rw [h3]; exact ⟨h1.symm, h2⟩)
  clear hok hJ hlen
  obtain ⟨a, c, rfl⟩ := HV.out.len
  have fM := HM.out.fa
  go_wp2_with fail
  all_goals clear fM
  refine nxt HM fun w12 M => ?_
  clear HM; have HM := M; clear M
  obtain ⟨nw, hnw⟩ : ∃ n, wr.heap.size = n := ⟨_, rfl⟩
  rw [hnw] at HM ⊢
  clear hnw
  obtain ⟨Ahj, hj⟩ := HM.out.get (r := judgeR b J) (by with_reducible repeat first | exact ph | apply pt)
  refine (whole_any w12 b J hj HLN.out).mono ?_
  rintro r w13 ⟨q, b', F', rfl, hq, hT', hE, hq0, hF'⟩
  replace HM := Lib.hid (HM.out.ext hE)
  clear hj hq hT' hE hq0 hF'
  clear F' Ahj
  have hsn := fun w => seq_nil2 w (some ⟨q, 0, none⟩)
  have fM := HM.out.fa
  go_wp2_with fail
  all_goals clear fM
  clear hsn
  refine nxt HM fun w14 M => ?_
  clear HM; have HM := M; clear M
  obtain ⟨Ahj, hj⟩ := HM.out.get (r := judgeR b J) (by with_reducible repeat first | exact ph | apply pt)
  refine (whole_any w14 b J hj HLN.out).mono ?_
  rintro r w15 ⟨q, b', F', rfl, hq, hT', hE, hq0, hF'⟩
  replace HM := Lib.hid (HM.out.new (r := seqR q b' J.T) (G := fun k => k = q ∨ F' k) hE ⟨F', fun k => Iff.rfl, hq, hT'⟩ (fun k hk => by rcases hk with rfl | hk; exact hq0; exact hF' k hk))
  clear hj hq hT' hE hq0 hF'
  clear F' Ahj
  have fM := HM.out.fa
  go_wp2_with fail
  all_goals clear fM
  refine nxt HM fun w16 M => ?_
  clear HM; have HM := M; clear M
  refine (wpIn_wide (n := 9)).1 ?_
  obtain ⟨A1, A2, hn1, ⟨F', hF1, hq2, hq3⟩, hd⟩ := HM.out.apart (r := cellsR nw 47 [.slice none 0 0]) (r' := seqR q b' J.T) (by with_reducible repeat first | exact ph | apply pt) (by with_reducible repeat first | exact ph | apply pt)
  have BC := Lib.hid hn1.2
  have hnbl := hn1.2.lt
  have hSq : ¬ OneB nw q := fun h => hd nw ((hn1.1 nw).2 rfl) ((hF1 nw).2 (.inl (Eq.symm h)))
  have hSF : ∀ k, F' k → ¬ OneB nw k := fun k hk h => hd nw ((hn1.1 nw).2 rfl) ((hF1 nw).2 (.inr (by have h9 : k = nw := h; rw [← h9]; exact hk)))
  have HNB := Lib.hid hnbl
  refine wpIn_range rfl (by omega) (gf := 33) (lb := #[.pointer (some ⟨q, 0, none⟩)]) rfl trivial (enters_of Tryd.func33 (by kernel_rfl) rfl)
    (S := OneB nw) (iter_whole w16 q b' J.T hq2 hq3 hSq hSF HLN.out) (by rintro x v W0 W rfl; rfl)
    (fun k V => Keeps (OneB nw) w16 V ∧ WholeAt V w16 nw ((W J).take k)) (fun c k V => False) (fun k V h => h.1)
    (fun k V V' h hk => ⟨h.1.then hk (fun i hi h => by unfold OneB at h ⊢; omega), h.2.keeps hnbl hk⟩)
    (fun c k V V' h hk => h) ⟨Keeps.refl _ _, .slice none 0 0, BC.out, Win.nil _ _ _⟩ ?_ ?_ (fun c k V hk h => h.elim)
  all_goals clear hn1 hq2 hq3 hSq hSF hd hF1
  · rintro k hk v V0 V - hE0 ⟨hkV, vv, hb0, hrow⟩ hv hlt0 hlt
    have hk' : k < J.T.l.length := by rw [wholeL_len] at hk; exact hk
    rw [wholeL_get] at hv
    unfold HandsOn at hv
    dsimp only at hv
    have htk := W_take J k hk'
    have hlk : ((W J).take k).length = k := by rw [List.length_take, W_len]; omega
    obtain ⟨y, hy⟩ : ∃ y, (J.T.l[k]).e = y := ⟨_, rfl⟩
    rw [hy] at hv htk
    unfold En.v at hv
    subst hv
    have HTK := Lib.hid htk
    have HKV := Lib.hid hkV
    have h7W := hkV.size
    obtain ⟨xs, hxs⟩ : ∃ xs, (W J).take k = xs := ⟨_, rfl⟩
    rw [hxs] at hrow hlk HTK
    have HRW := Lib.hid hrow
    have HB0 := Lib.hid hb0
    have HLK := Lib.hid hlk
    clear hy hkV hb0 hE0 htk hrow hlk hxs
    gi_wp2_with fail
    refine ⟨(Keeps.refl _ _).alloc _, fun W2 hW2 => ?_⟩
    obtain ⟨pa, pc, rfl⟩ := HRW.out.len
    have hown : ∀ k, Own (.slice pa xs.length pc) k → w16.heap.size + 2 ≤ k := fun k hk => (Win.block HRW.out k hk).1
    have e2 : Keeps (OneB nw) w16 W2 := (HKV.out.alloc _).then hW2 (fun i hi h => by unfold OneB at h; omega)
    have b0 := (HB0.out.alloc (Obj.cells #[.int .i64 y.kind, .int .i64 y.member, .int .i64 y.number, .string (bs y.text)] 35)).keeps hW2 (by unfold OneB; omega)
    have bx := (Box.new V 35 [.int .i64 y.kind, .int .i64 y.member, .int .i64 y.number, .string (bs y.text)]).keeps hW2 (by unfold OneB; omega)
    have r0 := (HRW.out.ext ((Keeps.refl NoB V).alloc (Obj.cells #[.int .i64 y.kind, .int .i64 y.member, .int .i64 y.number, .string (bs y.text)] 35))).keeps hW2 (fun k hk h => by have := hown k hk; have h9 : k = w16.heap.size + 1 := h; omega)
    have r3 := r0.ext ((Keeps.refl NoB W2).alloc (Obj.cells #[.int .i64 y.kind, .int .i64 y.member, .int .i64 y.number, .string (bs y.text)] 35))
    have b3 := Box.new W2 35 [.int .i64 y.kind, .int .i64 y.member, .int .i64 y.number, .string (bs y.text)]
    have b03 := b0.alloc (Obj.cells #[.int .i64 y.kind, .int .i64 y.member, .int .i64 y.number, .string (bs y.text)] 35)
    have hlw : w16.heap.size + 2 ≤ W2.heap.size := by have h8 := hW2.size; rw [World.size_alloc] at h8; omega
    have hln := HLN.out
    have hlk := HLK.out
    obtain ⟨i0, hi, hz0, hz1, hz2⟩ := info_parts infoEn
    obtain ⟨v5, w5, hr5, hw5, hk5, -⟩ := run_append_win _ (w16.heap.size + 2) 47 47 47 35 i0 _ 4 40 Tryd.underlying47 hi hz0 hz1 hz2 rfl (.slice pa xs.length pc) xs.length (enE.row xs) r3 (.slice (some ⟨W2.heap.size, 0, none⟩) 1 1) 1 (enE.row [y]) ((one_src (E := enE) (x := y) (c := 1) b3.reads.1).toSrc Tryd.underlying47 (enE.row_len [y]) (enE.row_one [y])) (by unfold maxLen; omega) (by omega) (by simp; omega)
    obtain ⟨pa', pc', rfl⟩ := Win.len hw5
    have hk5' : Keeps (Own (.slice pa xs.length pc)) (W2.alloc (Obj.cells #[.int .i64 y.kind, .int .i64 y.member, .int .i64 y.number, .string (bs y.text)] 35)) w5 := hk5
    have b5 := b03.keeps hk5' (fun h => by have := hown nw h; omega)
    have k5 : Keeps (OneB nw) w16 w5 := (e2.alloc _).then hk5' (fun i hi h => by have := hown i h; omega)
    have k6 : Keeps (RB (OneB nw) w16.heap.size) W2 w5 := ((Keeps.refl _ W2).alloc _).then hk5' (fun i hi h => .inr (hown i h))
    have HBX := Lib.hid bx
    have HB2 := Lib.hid b0
    have HB5 := Lib.hid b5
    have HK5 := Lib.hid k5
    have HK6 := Lib.hid k6
    have HW5 := Lib.hid hw5
    have n1 : ¬ nw = V.heap.size := by omega
    have n2 : ¬ V.heap.size = nw := by omega
    have n3 : ¬ nw = W2.heap.size := by omega
    have n4 : ¬ W2.heap.size = nw := by omega
    clear e2 b0 bx r0 r3 b3 b03 hk5 hk5' b5 k5 k6 hi hz0 hz1 hz2 hlw hln hlk hown hW2
    obtain ⟨cHBX, zHBX⟩ := HBX.out.reads
    have lHBX := HBX.out.lt
    obtain ⟨cHB2, zHB2⟩ := HB2.out.reads
    have lHB2 := HB2.out.lt
    obtain ⟨cHB5, zHB5⟩ := HB5.out.reads
    have lHB5 := HB5.out.lt
    gi_wp2_with (gi_at_builtin; refine wpListIn_append_ran rfl _ _ hr5 rfl rfl rfl ?_)
    refine ⟨?_, ?_, ?_⟩
    · exact HK6.out.setCell _ _ (.inl (.inl ⟨HNB.out, rfl⟩))
    · exact HK5.out.setCell _ _ (.inl rfl)
    · rw [HTK.out]
      refine ⟨_, HB5.out.set 0 _, ?_⟩
      unfold RowAt
      rw [enE.row_append, List.length_append]
      refine Win.keeps HW5.out ((Keeps.refl (OneB nw) w5).setCell _ _ (.inl rfl)) fun k hk h => ?_
      have := (Win.block HW5.out k hk).1
      have h9 : k = nw := h
      have := HNB.out
      omega
  · intro V hW hm
    obtain ⟨hkV, vv, hb0, hrow⟩ := hW
    rw [wholeL_len, ← W_len, List.take_length] at hrow
    obtain ⟨pa, pc, rfl⟩ := hrow.len
    obtain ⟨A0, hA0, hS0⟩ := (HM.out.pick (r := cellsR nw 47 [.slice none 0 0]) (by with_reducible repeat first | exact ph | apply pt)).step
    have HM9 := Lib.hid (hS0 _ V (upd_mark3 hA0.1 hb0 hm hrow hkV HNB.out)).openSep3
    clear HM
    have HM := HM9
    clear HM9 hA0 hS0 hkV hb0 hm hrow
    clear A0 A1 A2 F'
    obtain ⟨D0, hD0⟩ : ∃ D0, w16.heap.size = D0 := ⟨_, rfl⟩
    rw [hD0] at HM ⊢
    clear hD0
    obtain ⟨N, hN⟩ : ∃ N, J.T.l.length = N := ⟨_, rfl⟩
    have hNW : (W J).length = N := by rw [W_len, hN]
    have HN := Lib.hid hN
    have HNW := Lib.hid hNW
    have hN4 : N ≤ 4096 := by have := HLN.out; omega
    have HN4 := Lib.hid hN4
    rw [hNW] at HM
    clear hN hNW
    have fM := HM.out.fa
    go_wp2_with fail
    all_goals clear fM
    refine nxt HM fun w17 M => ?_
    clear HM; have HM := M; clear M
    obtain ⟨Ahr, hr⟩ := HM.out.get (r := rowR enE (.slice pa N pc) (W J)) (by with_reducible repeat first | exact ph | apply pt)
    refine (talk_of (B := w) w17 _ (W J) (row_of_row hr).1 HFW.out.2 HT.out HM.out.extTo).mono ?_
    rintro r w18 ⟨bt, rfl, hU⟩
    rw [HFW.out.1] at hU
    replace HM := Lib.hid (HM.out.newU' hU)
    clear hU hr
    have fM := HM.out.fa
    go_wp2_with fail
    all_goals clear fM
    refine nxt HM fun w19 M => ?_
    clear HM; have HM := M; clear M
    have hNc : (J.T.l.length : Int) = N := by rw [HN.out]
    have fM := HM.out.fa
    refine wp_region_noPanic ?_
    have hE0 : Keeps NoB w19 w19.drew := (Keeps.refl _ _).drew
    refine wp_region_plan [(0, 0), (2, 1), (0, 2), (0, 3), (0, 4), (1, 6), (0, 7), (2, 5), (0, 8), (0, 9)] [6] [1, 5] [] (ClsE w19) (by kernel_rfl) (by kernel_rfl) (by kernel_rfl) rfl rfl (ClsE.of hE0) (fun _ _ _ _ _ h => h) ?_; simp only [planL, nL]
    refine pM _ rfl rfl ?_; simp only [nP, nE]
    refine plan_does rfl (fun K hK => ?_)
    go_wp2_with fail
    skip
    refine (num_any _ _).mono ?_
    rintro r wq ⟨rfl, hwq⟩
    rw [hwq]
    clear hwq wq
    refine hK _ _ ⟨ClsE.of (by assumption), ?_⟩; clear hK K; try simp only [nP]
    refine pR (v := ?_) rfl (fun W => ?_) ?_; rotate_left; (go_simp <;> with_reducible rfl); simp only [nP]
    refine pM _ rfl rfl ?_; simp only [nP, nE]
    (first | (refine plan_skip rfl ?_; simp only [nP]) | (refine pM _ rfl rfl ?_; simp only [nP, nE]))
    (first | (refine plan_skip rfl ?_; simp only [nP]) | (refine pL (v := ?_) rfl (fun W => ?_) ?_; rotate_left; (go_simp <;> with_reducible rfl); simp only [nP]))
    (first | (refine plan_skip rfl ?_; simp only [nP]) | (refine pR (v := ?_) rfl (fun W => ?_) ?_; rotate_left; (go_simp <;> with_reducible rfl); simp only [nP]))
    (first | (refine plan_skip rfl ?_; simp only [nP]) | (refine plan_does rfl (fun K hK => ?_)))
    go_wp2_with fail
    skip
    refine Mem.callE (wr := w19) HM.out.to (by repeat (first | assumption | exact Keeps.refl _ _ | with_reducible apply Keeps.drew | with_reducible apply Keeps.alloc)) fun w20 M hE20 => ?_
    replace HM := Lib.hid M
    clear M
    obtain ⟨Aht, ht⟩ := HM.out.get (r := talkR bt J.T) (by with_reducible repeat first | exact ph | apply pt)
    refine (talk_len w20 bt J.T ht).mono ?_
    rintro r wq ⟨rfl, hwq⟩
    rw [hwq, hNc]
    clear hwq wq ht
    refine hK _ _ ⟨ClsE.of (by assumption), ?_⟩; clear hK K; try simp only [nP]
    (first | (refine plan_skip rfl ?_; simp only [nP]) | (refine pR (v := ?_) rfl (fun W => ?_) ?_; rotate_left; (go_simp <;> with_reducible rfl); simp only [nP]))
    refine pR (v := ?_) rfl (fun W => ?_) ?_; rotate_left; (go_simp <;> with_reducible rfl); simp only [nP]
    refine plan_nil ?_; simp only [tailL, List.filterMap_nil]
    clear fM
    clear hNc
    have fM := HM.out.fa
    go_wp2_with fail
    all_goals clear fM
    refine NoPanic.ok ?_
    have fM := HM.out.fa
    go_wp2_with fail
    all_goals clear fM
    clear hE0
    go_loopw [16] (fun i wr => ∃ p : Nat, p ≤ 3 ∧ i = .int .i64 p ∧ Hid (Mem NoB w wr [judgeR b J, cellsR nt 60 tv, rowsR tv s.tl, cellsR (nt + 1) 61 hv, rowsR hv s.hl, cellsR (nt + 1 + 1) 62 (s.fr.map iV), cellsR nw 47 [.slice pa N pc], rowR enE (.slice pa N pc) (W J), markR D0])) (fun i _ => 3 - (intOf i).toNat)
    case atStart =>
      refine ⟨0, Nat.zero_le _, rfl, Lib.hid ?_⟩
      apply Mem.mem
      · skip
        exact HM.out.to
      intro w8 M
      exact Mem.sub M (by repeat first | exact Sub.nil | refine Sub.cons (by with_reducible repeat first | exact ph | apply pt) ?_)
    case round =>
      clear HM
      obtain ⟨p, hp, rfl, HM⟩ := hrel
      have q1 := HKP.out.tv3
      have q3 := HKP.out.inv.tl3
      by_cases hlt : p < 3
      · have hrow := HM.out.rowsAt (vs := tv) (ls := s.tl) (by with_reducible repeat first | exact ph | apply pt) p (by omega) (by omega)
        have hpc := HKP.out.inv.told p hlt
        have e9 : s.tl.getD p [] = s.tl[p]'(by omega) := by rw [List.getD_eq_getElem?_getD, List.getElem?_eq_getElem (by omega)]; rfl
        rw [e9] at hpc
        obtain ⟨xs, hxs⟩ : ∃ xs, s.tl[p]'(by omega) = xs := ⟨_, rfl⟩
        rw [hxs] at hrow hpc
        obtain ⟨a', c', hv'⟩ := hrow.len
        obtain ⟨m, hm⟩ : ∃ m, xs.length = m := ⟨_, rfl⟩
        rw [hm] at hv' hpc
        have HMm := Lib.hid hm
        have HRT := Lib.hid hxs
        obtain ⟨n0, hn0⟩ : ∃ n0 : Nat, J.told.getD p 0 - (m : Int) = n0 := ⟨(J.told.getD p 0 - (m : Int)).toNat, by have := hpc.1; omega⟩
        rw [hn0] at hpc
        have HPC := Lib.hid hpc
        obtain ⟨T0, hT0⟩ : ∃ T0, J.told.getD p 0 = T0 := ⟨_, rfl⟩
        rw [hT0] at hn0
        have hw : IntKind.i64.wrap (T0 - (m : Int)) = (n0 : Int) := by
          rw [hn0]
          have h1 := hpc.2.1
          rw [HNW.out] at h1
          have := HN4.out
          exact IntWalk.i64_in _ (by omega)
        have HPL := Lib.hid (show atR J.n.toNat (fun k => J.told.getD k 0) p 0 = T0 by rw [HKP.out.inv.n3]; exact (atR_at hlt).trans hT0)
        have g1 : (p : Int) < 3 := by omega
        have g2 : ¬ (p : Int) < 0 := by omega
        clear hrow hpc e9 hxs hm hn0 hT0
        have fM := HM.out.fa
        go_wp2_with fail
        all_goals clear fM
        refine nxt HM fun w21 M => ?_
        clear HM; have HM := M; clear M
        have fM := HM.out.fa
        refine wp_region_noPanic ?_
        have hE0 : Keeps NoB w21 w21.drew := (Keeps.refl _ _).drew
        refine wp_region_plan [(0, 0), (0, 1), (0, 3), (0, 4), (1, 5), (0, 6), (2, 2), (0, 7), (0, 8)] [5] [2] [] (ClsE w21) (by kernel_rfl) (by kernel_rfl) (by kernel_rfl) rfl rfl (ClsE.of hE0) (fun _ _ _ _ _ h => h) ?_; simp only [planL, nL]
        iterate 3 (refine pM _ rfl rfl ?_; simp only [nP, nE])
        refine pR (v := ?_) rfl (fun W => ?_) ?_; rotate_left; (go_simp <;> with_reducible rfl); simp only [nP]
        refine pL (v := ?_) rfl (fun W => ?_) ?_; rotate_left; (go_simp <;> with_reducible rfl); simp only [nP]
        refine pR (v := ?_) rfl (fun W => ?_) ?_; rotate_left; (go_simp <;> with_reducible rfl); simp only [nP]
        refine plan_does rfl (fun K hK => ?_)
        go_wp2_with fail
        skip
        refine Mem.callE (wr := w21) HM.out.to (by repeat (first | assumption | exact Keeps.refl _ _ | with_reducible apply Keeps.drew | with_reducible apply Keeps.alloc)) fun w22 M hE22 => ?_
        replace HM := Lib.hid M
        clear M
        obtain ⟨Ahj, hj⟩ := HM.out.get (r := judgeR b J) (by with_reducible repeat first | exact ph | apply pt)
        refine (place_any w22 b J p hj (by rw [HKP.out.inv.n3]; decide) (by rw [HKP.out.inv.n3]; decide)).mono ?_
        rintro r w23 ⟨rfl, hE⟩
        rw [HPL.out]
        replace HM := Lib.hid (HM.out.ext hE)
        have hE23 := hE22.ext hE
        clear hE hj
        refine hK _ _ ⟨ClsE.of (by assumption), ?_⟩; clear hK K; try simp only [nP]
        refine pR (v := ?_) rfl (fun W => ?_) ?_; rotate_left; (go_simp <;> with_reducible rfl); simp only [nP]
        refine pA _ rfl rfl ?_; simp only [nP, nE]
        refine plan_nil ?_; simp only [tailL, List.filterMap_nil]
        clear fM
        have fM := HM.out.fa
        go_wp2_with fail
        all_goals clear fM
        refine NoPanic.ok ?_
        have fM := HM.out.fa
        go_wp2_with fail
        all_goals clear fM
        clear hE0 hw
        try clear hE22
        try clear hE23
        go_loopw [18] (fun i wr => ∃ j : Nat, j ≤ m ∧ i = .int .i64 j ∧ Hid (Mem NoB w wr [judgeR b J, cellsR nt 60 tv, rowsR tv s.tl, cellsR (nt + 1) 61 hv, rowsR hv s.hl, cellsR (nt + 1 + 1) 62 (s.fr.map iV), cellsR nw 47 [.slice pa N pc], rowR enE (.slice pa N pc) (W J), markR D0])) (fun i _ => m - (intOf i).toNat)
        case atStart =>
          refine ⟨0, Nat.zero_le _, rfl, Lib.hid ?_⟩
          apply Mem.mem
          · skip
            exact HM.out.to
          intro w8 M
          exact Mem.sub M (by repeat first | exact Sub.nil | refine Sub.cons (by with_reducible repeat first | exact ph | apply pt) ?_)
        case round =>
          clear HM
          obtain ⟨j, hj, rfl, HM⟩ := hrel
          by_cases hjm : j < m
          · have hrow := HM.out.rowsAt (vs := tv) (ls := s.tl) (by with_reducible repeat first | exact ph | apply pt) p (by omega) (by omega)
            rw [hv', HRT.out] at hrow
            obtain ⟨g', o', rfl, hg', d0, d1, d2, d3⟩ := en_4 (l := xs) (by rw [HMm.out]; exact hrow) j (by rw [HMm.out]; exact hjm)
            obtain ⟨Ahr, hr⟩ := HM.out.get (r := rowR enE (.slice pa N pc) (W J)) (by with_reducible repeat first | exact ph | apply pt)
            have hnl := HPC.out.2.1
            rw [HNW.out] at hnl
            have hmm := HMm.out
            obtain ⟨g2', o2, rfl, hg2, f0, f1, f2, f3⟩ := en_4 (l := W J) (by rw [HNW.out]; exact (row_of_row hr).1) (n0 + j) (by rw [HNW.out]; omega)
            have hsame : (W J)[n0 + j]'(by rw [HNW.out]; omega) = xs[j]'(by omega) := by
              have h1 := HPC.out.2.2 j (by omega)
              rw [Int.toNat_natCast, List.getElem?_eq_getElem (by rw [HNW.out]; omega), List.getElem?_eq_getElem (by omega)] at h1
              exact Option.some.inj h1
            rw [hsame] at f0 f1 f2 f3
            obtain ⟨y, hy⟩ : ∃ y, xs[j]'(by omega) = y := ⟨_, rfl⟩
            rw [hy] at d0 d1 d2 d3 f0 f1 f2 f3
            have hN4 := HN4.out
            obtain ⟨nj, hnj⟩ : ∃ nj, n0 + j = nj := ⟨_, rfl⟩
            have hw2 : IntKind.i64.wrap ((n0 : Int) + (j : Int)) = (nj : Int) := by
              rw [show (nj : Int) = (n0 : Int) + (j : Int) by omega]
              exact IntWalk.i64_in _ (by omega)
            have g3 : (j : Int) < (m : Int) := by omega
            have g4 : ¬ (j : Int) < 0 := by omega
            have g5 : ¬ (n0 : Int) < 0 := by omega
            have g6 : ¬ (N : Int) ≤ (nj : Int) := by omega
            have g7 : ¬ (nj : Int) < 0 := by omega
            have g8 : (nj : Int) < (N : Int) := by omega
            have g9 : decide (N ≤ nj) = false := by simp; omega
            have g10 : (j : Int) < 4096 := by omega
            rw [hnj] at f0 f1 f2 f3
            have hq : ∀ W, (binOp .neq 35 (.agg #[.int .i64 y.kind, .int .i64 y.member, .int .i64 y.number, .string (bs y.text)]) (.agg #[.int .i64 y.kind, .int .i64 y.member, .int .i64 y.number, .string (bs y.text)])).run Tryd.prog W = .ok (.bool false) W := fun W => by rw [ne_en, decide_eq_true rfl]; rfl
            have HJM := Lib.hid hjm
            clear hsame hy hr hrow hnl hmm hN4 hjm hnj
            try clear Ahr
            have fM := HM.out.fa
            go_wp2_with fail
            refine wp_region_noPanic ?_
            have hE0 : Keeps NoB wr wr.drew := (Keeps.refl _ _).drew
            refine wp_region_plan [(0, 0), (0, 1), (0, 2), (0, 3), (0, 4), (0, 5), (3, 6), (0, 7), (0, 8), (0, 9), (0, 10), (0, 11), (0, 12), (3, 13), (0, 14), (0, 15), (3, 16), (3, 17), (0, 18), (0, 19), (0, 20), (0, 21), (3, 22), (0, 23), (0, 24)] [] [] [] (ClsE wr) (by kernel_rfl) (by kernel_rfl) (plan3 [0, 1, 3, 7, 7, 31, 7, 71, 255, 511, 1023, 2047, 4095, 8191, 2047, 32767, 65535, 2047, 2047, 2047, 788479, 1968127, 4065279, 8388607, 16777215] (by kernel_rfl) rfl (by kernel_rfl)) rfl rfl (ClsE.of hE0) (fun _ _ _ _ _ h => h) ?_; simp only [planL, nL]
            refine pM _ rfl rfl ?_; simp only [nP, nE]
            refine pR (v := ?_) rfl (fun W => ?_) ?_; rotate_left; (go_simp <;> with_reducible rfl); simp only [nP]
            refine pM _ rfl rfl ?_; simp only [nP, nE]
            iterate 2 ((first | (refine plan_skip rfl ?_; simp only [nP]) | (refine pM _ rfl rfl ?_; simp only [nP, nE])))
            (first | (refine plan_skip rfl ?_; simp only [nP]) | (refine pR (v := ?_) rfl (fun W => ?_) ?_; rotate_left; (go_simp <;> with_reducible rfl); simp only [nP]))
            (first | (refine plan_skip rfl ?_; simp only [nP]) | (refine pX (v := ?_) rfl ?_ ?_; rotate_left; (go_simp <;> with_reducible rfl); simp only [nP]))
            iterate 2 ((first | (refine plan_skip rfl ?_; simp only [nP]) | (refine pR (v := ?_) rfl (fun W => ?_) ?_; rotate_left; (go_simp <;> with_reducible rfl); simp only [nP])))
            refine pR (v := ?_) rfl (fun W => ?_) ?_; rotate_left; (go_simp <;> with_reducible rfl); simp only [nP]
            refine pM _ rfl rfl ?_; simp only [nP, nE]
            (first | (refine plan_skip rfl ?_; simp only [nP]) | (refine pM _ rfl rfl ?_; simp only [nP, nE]))
            (first | (refine plan_skip rfl ?_; simp only [nP]) | (refine pR (v := ?_) rfl (fun W => ?_) ?_; rotate_left; (go_simp <;> with_reducible rfl); simp only [nP]))
            (first | (refine plan_skip rfl ?_; simp only [nP]) | (refine pX (v := ?_) rfl ?_ ?_; rotate_left; (go_simp <;> with_reducible rfl); simp only [nP]))
            (first | (refine plan_skip rfl ?_; simp only [nP]) | (refine pM _ rfl rfl ?_; simp only [nP, nE]))
            (first | (refine plan_skip rfl ?_; simp only [nP]) | (refine pR (v := ?_) rfl (fun W => ?_) ?_; rotate_left; (go_simp <;> with_reducible rfl); simp only [nP]))
            iterate 2 ((first | (refine plan_skip rfl ?_; simp only [nP]) | (refine pX (v := ?_) rfl ?_ ?_; rotate_left; (go_simp <;> with_reducible rfl); simp only [nP])))
            iterate 2 ((first | (refine plan_skip rfl ?_; simp only [nP]) | (refine pM _ rfl rfl ?_; simp only [nP, nE])))
            iterate 2 ((first | (refine plan_skip rfl ?_; simp only [nP]) | (refine pR (v := ?_) rfl (fun W => ?_) ?_; rotate_left; (go_simp <;> with_reducible rfl); simp only [nP])))
            (first | (refine plan_skip rfl ?_; simp only [nP]) | (refine pX (v := ?_) rfl ?_ ?_; rotate_left; (go_simp <;> with_reducible rfl); simp only [nP]))
            (first | (refine plan_skip rfl ?_; simp only [nP]) | (refine pR (v := ?_) rfl (fun W => ?_) ?_; rotate_left; (go_simp <;> with_reducible rfl); simp only [nP]))
            refine pR (v := ?_) rfl (fun W => ?_) ?_; rotate_left; (go_simp <;> with_reducible rfl); simp only [nP]
            refine plan_nil ?_; simp only [tailL, List.filterMap_nil]
            clear fM
            have fM := HM.out.fa
            go_wp2_with fail
            all_goals clear fM
            refine NoPanic.ok ?_
            have fM := HM.out.fa
            go_wp2_with fail
            all_goals clear fM
            go_roundw
            case rel =>
              refine ⟨j + 1, by have := HJM.out; omega, by go_num, Lib.hid ?_⟩
              apply Mem.mem
              · skip
                exact HM.out.to
              intro w8 M
              exact Mem.sub M (by repeat first | exact Sub.nil | refine Sub.cons (by with_reducible repeat first | exact ph | apply pt) ?_)
            case measure => have := HJM.out; simp [intOf]; omega
          · have g3 : ¬ (j : Int) < (m : Int) := by omega
            clear hjm hj
            have fM := HM.out.fa
            go_wp2_with fail
            all_goals clear fM
            go_roundw
            case rel =>
              refine ⟨p + 1, by omega, by go_num, Lib.hid ?_⟩
              apply Mem.mem
              · skip
                exact HM.out.to
              intro w8 M
              exact Mem.sub M (by repeat first | exact Sub.nil | refine Sub.cons (by with_reducible repeat first | exact ph | apply pt) ?_)
            case measure => simp [intOf]; omega
      · have g1 : ¬ (p : Int) < 3 := by omega
        clear hlt hp
        have fM := HM.out.fa
        go_wp2_with fail
        all_goals clear fM
        go_loopw [19] (fun i wr => ∃ p : Nat, p ≤ 4 ∧ i = .int .i64 p ∧ Hid (Mem NoB w wr [judgeR b J, cellsR nt 60 tv, rowsR tv s.tl, cellsR (nt + 1) 61 hv, rowsR hv s.hl, cellsR (nt + 1 + 1) 62 (s.fr.map iV), cellsR nw 47 [.slice pa N pc], rowR enE (.slice pa N pc) (W J), markR D0])) (fun i _ => 4 - (intOf i).toNat)
        case atStart =>
          refine ⟨0, Nat.zero_le _, rfl, Lib.hid ?_⟩
          apply Mem.mem
          · skip
            exact HM.out.to
          intro w8 M
          exact Mem.sub M (by repeat first | exact Sub.nil | refine Sub.cons (by with_reducible repeat first | exact ph | apply pt) ?_)
        case round =>
          clear HM
          obtain ⟨p, hp, rfl, HM⟩ := hrel
          have q2 := HKP.out.hv4
          have q4 := HKP.out.inv.hl4
          have q5 := HKP.out.inv.fr4
          by_cases hlt : p < 4
          · have hrow := HM.out.rowsAt (vs := hv) (ls := s.hl) (by with_reducible repeat first | exact ph | apply pt) p (by omega) (by omega)
            have e9 : s.hl.getD p [] = s.hl[p]'(by omega) := by rw [List.getD_eq_getElem?_getD, List.getElem?_eq_getElem (by omega)]; rfl
            have hpc := HKP.out.inv.heard p hlt
            rw [e9] at hpc
            obtain ⟨xs, hxs⟩ : ∃ xs, s.hl[p]'(by omega) = xs := ⟨_, rfl⟩
            rw [hxs] at hrow hpc
            obtain ⟨a', c', hv'⟩ := hrow.len
            obtain ⟨m, hm⟩ : ∃ m, xs.length = m := ⟨_, rfl⟩
            rw [hm] at hv' hpc
            obtain ⟨F0, hF0⟩ : ∃ F0, s.fr.getD p 0 = F0 := ⟨_, rfl⟩
            rw [hF0] at hpc
            have cf : (s.fr.map iV)[p]? = some (.int .i64 F0) := by rw [List.getElem?_map, List.getElem?_eq_getElem (by omega), ← hF0, List.getD_eq_getElem?_getD, List.getElem?_eq_getElem (by omega)]; rfl
            obtain ⟨fl, hfl⟩ : ∃ fl, s.fr.map iV = fl := ⟨_, rfl⟩
            rw [hfl] at cf
            have HMm := Lib.hid hm
            have HRT := Lib.hid hxs
            have HPC := Lib.hid hpc
            have HFL := Lib.hid hfl
            have g1 : (p : Int) < 4 := by omega
            have g2 : ¬ (p : Int) < 0 := by omega
            rw [hfl] at HM
            clear hrow hpc e9 hxs hm hF0 hfl
            have fM := HM.out.fa
            go_wp2_with fail
            all_goals clear fM
            go_loopw [20] (fun i wr => ∃ j : Nat, j ≤ m ∧ i = .int .i64 j ∧ Hid (Mem NoB w wr [judgeR b J, cellsR nt 60 tv, rowsR tv s.tl, cellsR (nt + 1) 61 hv, rowsR hv s.hl, cellsR (nt + 1 + 1) 62 fl, cellsR nw 47 [.slice pa N pc], rowR enE (.slice pa N pc) (W J), markR D0])) (fun i _ => m - (intOf i).toNat)
            case atStart =>
              refine ⟨0, Nat.zero_le _, rfl, Lib.hid ?_⟩
              apply Mem.mem
              · skip
                exact HM.out.to
              intro w8 M
              exact Mem.sub M (by repeat first | exact Sub.nil | refine Sub.cons (by with_reducible repeat first | exact ph | apply pt) ?_)
            case round =>
              clear HM
              obtain ⟨j, hj, rfl, HM⟩ := hrel
              by_cases hjm : j < m
              · have hrow := HM.out.rowsAt (vs := hv) (ls := s.hl) (by with_reducible repeat first | exact ph | apply pt) p (by omega) (by omega)
                rw [hv', HRT.out] at hrow
                obtain ⟨g', o', rfl, hg', d0, d1, d2, d3⟩ := en_4 (l := xs) (by rw [HMm.out]; exact hrow) j (by rw [HMm.out]; exact hjm)
                obtain ⟨Ahr, hr⟩ := HM.out.get (r := rowR enE (.slice pa N pc) (W J)) (by with_reducible repeat first | exact ph | apply pt)
                have hmm := HMm.out
                obtain ⟨hpi, -⟩ := HPC.out (fun h => by rw [h] at hmm; simp at hmm; omega)
                have hnl := hpi.2.1
                have hn1 := hpi.1
                rw [HNW.out] at hnl
                obtain ⟨n0, rfl⟩ : ∃ n0 : Nat, F0 = n0 := ⟨F0.toNat, by omega⟩
                obtain ⟨g2', o2, rfl, hg2, f0, f1, f2, f3⟩ := en_4 (l := W J) (by rw [HNW.out]; exact (row_of_row hr).1) (n0 + j) (by rw [HNW.out]; omega)
                have hsame : (W J)[n0 + j]'(by rw [HNW.out]; omega) = xs[j]'(by omega) := by
                  have h1 := hpi.2.2 j (by omega)
                  rw [Int.toNat_natCast, List.getElem?_eq_getElem (by rw [HNW.out]; omega), List.getElem?_eq_getElem (by omega)] at h1
                  exact Option.some.inj h1
                rw [hsame] at f0 f1 f2 f3
                obtain ⟨y, hy⟩ : ∃ y, xs[j]'(by omega) = y := ⟨_, rfl⟩
                rw [hy] at d0 d1 d2 d3 f0 f1 f2 f3
                have hN4 := HN4.out
                obtain ⟨nj, hnj⟩ : ∃ nj, n0 + j = nj := ⟨_, rfl⟩
                have hw2 : IntKind.i64.wrap ((n0 : Int) + (j : Int)) = (nj : Int) := by
                  rw [show (nj : Int) = (n0 : Int) + (j : Int) by omega]
                  exact IntWalk.i64_in _ (by omega)
                have g3 : (j : Int) < (m : Int) := by omega
                have g4 : ¬ (j : Int) < 0 := by omega
                have g5 : ¬ (n0 : Int) < 0 := by omega
                have g6 : ¬ (N : Int) ≤ (nj : Int) := by omega
                have g7 : ¬ (nj : Int) < 0 := by omega
                have g8 : (nj : Int) < (N : Int) := by omega
                have g9 : decide (N ≤ nj) = false := by simp; omega
                have g10 : (j : Int) < 4096 := by omega
                rw [hnj] at f0 f1 f2 f3
                have hq : ∀ W, (binOp .neq 35 (.agg #[.int .i64 y.kind, .int .i64 y.member, .int .i64 y.number, .string (bs y.text)]) (.agg #[.int .i64 y.kind, .int .i64 y.member, .int .i64 y.number, .string (bs y.text)])).run Tryd.prog W = .ok (.bool false) W := fun W => by rw [ne_en, decide_eq_true rfl]; rfl
                have HJM := Lib.hid hjm
                clear hsame hy hr hrow hnl hmm hN4 hjm hnj hpi hn1
                try clear Ahr
                have fM := HM.out.fa
                go_wp2_with fail
                refine wp_region_noPanic ?_
                have hE0 : Keeps NoB wr wr.drew := (Keeps.refl _ _).drew
                refine wp_region_plan [(0, 0), (0, 1), (3, 2), (0, 3), (0, 4), (0, 5), (0, 6), (3, 7), (0, 8), (0, 9), (3, 10), (0, 11), (0, 12), (0, 13), (0, 14), (0, 15), (0, 16), (3, 17), (0, 18), (0, 19), (3, 20), (3, 21), (0, 22), (0, 23), (3, 24), (0, 25), (0, 26), (0, 27), (3, 28), (0, 29), (0, 30)] [] [] [] (ClsE wr) (by kernel_rfl) (by kernel_rfl) (plan3 [0, 1, 3, 7, 15, 31, 63, 127, 31, 511, 31, 1055, 4095, 8191, 16383, 32767, 65535, 131071, 32767, 524287, 1048575, 32767, 32767, 4227071, 12615679, 32767, 62947327, 132153343, 266371071, 536870911, 1073741823] (by kernel_rfl) rfl (by kernel_rfl)) rfl rfl (ClsE.of hE0) (fun _ _ _ _ _ h => h) ?_; simp only [planL, nL]
                refine pM _ rfl rfl ?_; simp only [nP, nE]
                refine pR (v := ?_) rfl (fun W => ?_) ?_; rotate_left; (go_simp <;> with_reducible rfl); simp only [nP]
                refine pX (v := ?_) rfl ?_ ?_; rotate_left; (go_simp <;> with_reducible rfl); simp only [nP]
                refine pR (v := ?_) rfl (fun W => ?_) ?_; rotate_left; (go_simp <;> with_reducible rfl); simp only [nP]
                refine pM _ rfl rfl ?_; simp only [nP, nE]
                (first | (refine plan_skip rfl ?_; simp only [nP]) | (refine pM _ rfl rfl ?_; simp only [nP, nE]))
                (first | (refine plan_skip rfl ?_; simp only [nP]) | (refine pR (v := ?_) rfl (fun W => ?_) ?_; rotate_left; (go_simp <;> with_reducible rfl); simp only [nP]))
                (first | (refine plan_skip rfl ?_; simp only [nP]) | (refine pX (v := ?_) rfl ?_ ?_; rotate_left; (go_simp <;> with_reducible rfl); simp only [nP]))
                (first | (refine plan_skip rfl ?_; simp only [nP]) | (refine pM _ rfl rfl ?_; simp only [nP, nE]))
                (first | (refine plan_skip rfl ?_; simp only [nP]) | (refine pR (v := ?_) rfl (fun W => ?_) ?_; rotate_left; (go_simp <;> with_reducible rfl); simp only [nP]))
                (first | (refine plan_skip rfl ?_; simp only [nP]) | (refine pX (v := ?_) rfl ?_ ?_; rotate_left; (go_simp <;> with_reducible rfl); simp only [nP]))
                iterate 2 ((first | (refine plan_skip rfl ?_; simp only [nP]) | (refine pR (v := ?_) rfl (fun W => ?_) ?_; rotate_left; (go_simp <;> with_reducible rfl); simp only [nP])))
                refine pR (v := ?_) rfl (fun W => ?_) ?_; rotate_left; (go_simp <;> with_reducible rfl); simp only [nP]
                refine pM _ rfl rfl ?_; simp only [nP, nE]
                (first | (refine plan_skip rfl ?_; simp only [nP]) | (refine pM _ rfl rfl ?_; simp only [nP, nE]))
                (first | (refine plan_skip rfl ?_; simp only [nP]) | (refine pR (v := ?_) rfl (fun W => ?_) ?_; rotate_left; (go_simp <;> with_reducible rfl); simp only [nP]))
                (first | (refine plan_skip rfl ?_; simp only [nP]) | (refine pX (v := ?_) rfl ?_ ?_; rotate_left; (go_simp <;> with_reducible rfl); simp only [nP]))
                (first | (refine plan_skip rfl ?_; simp only [nP]) | (refine pM _ rfl rfl ?_; simp only [nP, nE]))
                (first | (refine plan_skip rfl ?_; simp only [nP]) | (refine pR (v := ?_) rfl (fun W => ?_) ?_; rotate_left; (go_simp <;> with_reducible rfl); simp only [nP]))
                iterate 2 ((first | (refine plan_skip rfl ?_; simp only [nP]) | (refine pX (v := ?_) rfl ?_ ?_; rotate_left; (go_simp <;> with_reducible rfl); simp only [nP])))
                (first | (refine plan_skip rfl ?_; simp only [nP]) | (refine pM _ rfl rfl ?_; simp only [nP, nE]))
                (first | (refine plan_skip rfl ?_; simp only [nP]) | (refine pR (v := ?_) rfl (fun W => ?_) ?_; rotate_left; (go_simp <;> with_reducible rfl); simp only [nP]))
                (first | (refine plan_skip rfl ?_; simp only [nP]) | (refine pX (v := ?_) rfl ?_ ?_; rotate_left; (go_simp <;> with_reducible rfl); simp only [nP]))
                (first | (refine plan_skip rfl ?_; simp only [nP]) | (refine pM _ rfl rfl ?_; simp only [nP, nE]))
                iterate 2 ((first | (refine plan_skip rfl ?_; simp only [nP]) | (refine pR (v := ?_) rfl (fun W => ?_) ?_; rotate_left; (go_simp <;> with_reducible rfl); simp only [nP])))
                (first | (refine plan_skip rfl ?_; simp only [nP]) | (refine pX (v := ?_) rfl ?_ ?_; rotate_left; (go_simp <;> with_reducible rfl); simp only [nP]))
                (first | (refine plan_skip rfl ?_; simp only [nP]) | (refine pR (v := ?_) rfl (fun W => ?_) ?_; rotate_left; (go_simp <;> with_reducible rfl); simp only [nP]))
                refine pR (v := ?_) rfl (fun W => ?_) ?_; rotate_left; (go_simp <;> with_reducible rfl); simp only [nP]
                refine plan_nil ?_; simp only [tailL, List.filterMap_nil]
                clear fM
                have fM := HM.out.fa
                go_wp2_with fail
                all_goals clear fM
                refine NoPanic.ok ?_
                have fM := HM.out.fa
                go_wp2_with fail
                all_goals clear fM
                go_roundw
                case rel =>
                  refine ⟨j + 1, by have := HJM.out; omega, by go_num, Lib.hid ?_⟩
                  apply Mem.mem
                  · skip
                    exact HM.out.to
                  intro w8 M
                  exact Mem.sub M (by repeat first | exact Sub.nil | refine Sub.cons (by with_reducible repeat first | exact ph | apply pt) ?_)
                case measure => have := HJM.out; simp [intOf]; omega
              · have g3 : ¬ (j : Int) < (m : Int) := by omega
                clear hjm hj
                by_cases hm0 : m = 0
                · subst hm0
                  have fM := HM.out.fa
                  go_wp2_with fail
                  all_goals clear fM
                  refine nxt HM fun w26 M => ?_
                  clear HM; have HM := M; clear M
                  have fM := HM.out.fa
                  refine wp_region_noPanic ?_
                  have hE0 : Keeps NoB w26 w26.drew := (Keeps.refl _ _).drew
                  refine wp_region_plan [(0, 0), (0, 1), (3, 2), (0, 3), (0, 4), (0, 5), (0, 6), (0, 7), (0, 9), (0, 10), (1, 11), (0, 12), (0, 13), (1, 14), (0, 15), (0, 16), (2, 8), (0, 17), (0, 18)] [11, 14] [8] [] (ClsE w26) (by kernel_rfl) (by kernel_rfl) (plan3 [0, 1, 3, 7, 15, 31, 63, 63, 255, 63, 575, 1599, 63, 4159, 12351, 28735, 65087, 131071, 262143] (by kernel_rfl) rfl (by kernel_rfl)) rfl rfl (ClsE.of hE0) (fun _ _ _ _ _ h => h) ?_; simp only [planL, nL]
                  refine pM _ rfl rfl ?_; simp only [nP, nE]
                  refine pR (v := ?_) rfl (fun W => ?_) ?_; rotate_left; (go_simp <;> with_reducible rfl); simp only [nP]
                  refine pX (v := ?_) rfl ?_ ?_; rotate_left; (go_simp <;> with_reducible rfl); simp only [nP]
                  iterate 2 (refine pR (v := ?_) rfl (fun W => ?_) ?_; rotate_left; (go_simp <;> with_reducible rfl); simp only [nP])
                  refine pM _ rfl rfl ?_; simp only [nP, nE]
                  iterate 3 ((first | (refine plan_skip rfl ?_; simp only [nP]) | (refine pM _ rfl rfl ?_; simp only [nP, nE])))
                  (first | (refine plan_skip rfl ?_; simp only [nP]) | (refine pR (v := ?_) rfl (fun W => ?_) ?_; rotate_left; (go_simp <;> with_reducible rfl); simp only [nP]))
                  (first | (refine plan_skip rfl ?_; simp only [nP]) | (refine pL (v := ?_) rfl (fun W => ?_) ?_; rotate_left; (go_simp <;> with_reducible rfl); simp only [nP]))
                  (first | (refine plan_skip rfl ?_; simp only [nP]) | (refine pM _ rfl rfl ?_; simp only [nP, nE]))
                  (first | (refine plan_skip rfl ?_; simp only [nP]) | (refine pR (v := ?_) rfl (fun W => ?_) ?_; rotate_left; (go_simp <;> with_reducible rfl); simp only [nP]))
                  (first | (refine plan_skip rfl ?_; simp only [nP]) | (refine pL (v := ?_) rfl (fun W => ?_) ?_; rotate_left; (go_simp <;> with_reducible rfl); simp only [nP]))
                  iterate 2 ((first | (refine plan_skip rfl ?_; simp only [nP]) | (refine pR (v := ?_) rfl (fun W => ?_) ?_; rotate_left; (go_simp <;> with_reducible rfl); simp only [nP])))
                  refine plan_skip rfl ?_; simp only [nP]
                  (first | (refine plan_skip rfl ?_; simp only [nP]) | (refine pR (v := ?_) rfl (fun W => ?_) ?_; rotate_left; (go_simp <;> with_reducible rfl); simp only [nP]))
                  refine pR (v := ?_) rfl (fun W => ?_) ?_; rotate_left; (go_simp <;> with_reducible rfl); simp only [nP]
                  refine plan_nil ?_; simp only [tailL, List.filterMap_nil]
                  clear fM
                  have fM := HM.out.fa
                  go_wp2_with fail
                  all_goals clear fM
                  refine NoPanic.ok ?_
                  have fM := HM.out.fa
                  go_wp2_with fail
                  all_goals clear fM
                  go_roundw
                  case rel =>
                    refine ⟨p + 1, by omega, by go_num, Lib.hid ?_⟩
                    rw [HFL.out]
                    apply Mem.mem
                    · skip
                      exact HM.out.to
                    intro w8 M
                    exact Mem.sub M (by repeat first | exact Sub.nil | refine Sub.cons (by with_reducible repeat first | exact ph | apply pt) ?_)
                  case measure => simp [intOf]; omega
                · have hmm := HMm.out
                  obtain ⟨hpi, hnx⟩ := HPC.out (fun h => by rw [h] at hmm; simp at hmm; omega)
                  have hnl := hpi.2.1
                  have hn1 := hpi.1
                  rw [HNW.out] at hnl
                  have hN4 := HN4.out
                  obtain ⟨T1, hT1⟩ : ∃ T1, J.next.getD p 0 = T1 := ⟨_, rfl⟩
                  rw [hT1] at hnx
                  have hw3 : IntKind.i64.wrap (F0 + (m : Int)) = T1 := by
                    rw [hnx]
                    exact IntWalk.i64_in _ (by omega)
                  have HPL := Lib.hid (show atR J.m.toNat (fun k => J.next.getD k 0) p (-1) = T1 by rw [HKP.out.inv.m4]; exact (atR_at hlt).trans hT1)
                  have g4 : (0 : Int) < (m : Int) := by omega
                  have g5 : 0 < m := by omega
                  have g6 : decide (0 < m) = true := by simp; omega
                  clear hpi hnx hnl hn1 hN4 hmm hT1
                  have fM := HM.out.fa
                  go_wp2_with fail
                  all_goals clear fM
                  refine nxt HM fun w26 M => ?_
                  clear HM; have HM := M; clear M
                  have fM := HM.out.fa
                  refine wp_region_noPanic ?_
                  have hE0 : Keeps NoB w26 w26.drew := (Keeps.refl _ _).drew
                  refine wp_region_plan [(0, 0), (0, 1), (3, 2), (0, 3), (0, 4), (0, 5), (0, 6), (0, 7), (0, 9), (0, 10), (1, 11), (0, 12), (0, 13), (1, 14), (0, 15), (0, 16), (2, 8), (0, 17), (0, 18)] [11, 14] [8] [] (ClsE w26) (by kernel_rfl) (by kernel_rfl) (plan3 [0, 1, 3, 7, 15, 31, 63, 63, 255, 63, 575, 1599, 63, 4159, 12351, 28735, 65087, 131071, 262143] (by kernel_rfl) rfl (by kernel_rfl)) rfl rfl (ClsE.of hE0) (fun _ _ _ _ _ h => h) ?_; simp only [planL, nL]
                  refine pM _ rfl rfl ?_; simp only [nP, nE]
                  refine pR (v := ?_) rfl (fun W => ?_) ?_; rotate_left; (go_simp <;> with_reducible rfl); simp only [nP]
                  refine pX (v := ?_) rfl ?_ ?_; rotate_left; (go_simp <;> with_reducible rfl); simp only [nP]
                  iterate 2 (refine pR (v := ?_) rfl (fun W => ?_) ?_; rotate_left; (go_simp <;> with_reducible rfl); simp only [nP])
                  refine pM _ rfl rfl ?_; simp only [nP, nE]
                  iterate 3 ((first | (refine plan_skip rfl ?_; simp only [nP]) | (refine pM _ rfl rfl ?_; simp only [nP, nE])))
                  (first | (refine plan_skip rfl ?_; simp only [nP]) | (refine pR (v := ?_) rfl (fun W => ?_) ?_; rotate_left; (go_simp <;> with_reducible rfl); simp only [nP]))
                  (first | (refine plan_skip rfl ?_; simp only [nP]) | (refine pL (v := ?_) rfl (fun W => ?_) ?_; rotate_left; (go_simp <;> with_reducible rfl); simp only [nP]))
                  (first | (refine plan_skip rfl ?_; simp only [nP]) | (refine pM _ rfl rfl ?_; simp only [nP, nE]))
                  (first | (refine plan_skip rfl ?_; simp only [nP]) | (refine pR (v := ?_) rfl (fun W => ?_) ?_; rotate_left; (go_simp <;> with_reducible rfl); simp only [nP]))
                  (first | (refine plan_skip rfl ?_; simp only [nP]) | (refine pL (v := ?_) rfl (fun W => ?_) ?_; rotate_left; (go_simp <;> with_reducible rfl); simp only [nP]))
                  iterate 2 ((first | (refine plan_skip rfl ?_; simp only [nP]) | (refine pR (v := ?_) rfl (fun W => ?_) ?_; rotate_left; (go_simp <;> with_reducible rfl); simp only [nP])))
                  (first | (refine plan_skip rfl ?_; simp only [nP]) | (refine plan_does rfl (fun K hK => ?_)))
                  go_wp2_with fail
                  skip
                  refine Mem.callE (wr := w26) HM.out.to (by repeat (first | assumption | exact Keeps.refl _ _ | with_reducible apply Keeps.drew | with_reducible apply Keeps.alloc)) fun w27 M hE27 => ?_
                  replace HM := Lib.hid M
                  clear M
                  obtain ⟨Ahj, hj⟩ := HM.out.get (r := judgeR b J) (by with_reducible repeat first | exact ph | apply pt)
                  refine (member_any w27 b J p hj (by rw [HKP.out.inv.m4]; decide) (by rw [HKP.out.inv.m4]; decide)).mono ?_
                  rintro r w28 ⟨rfl, hE⟩
                  rw [HPL.out]
                  replace HM := Lib.hid (HM.out.ext hE)
                  have hE28 := hE27.ext hE
                  clear hE hj
                  refine hK _ _ ⟨ClsE.of (by assumption), ?_⟩; clear hK K; try simp only [nP]
                  (first | (refine plan_skip rfl ?_; simp only [nP]) | (refine pR (v := ?_) rfl (fun W => ?_) ?_; rotate_left; (go_simp <;> with_reducible rfl); simp only [nP]))
                  refine pR (v := ?_) rfl (fun W => ?_) ?_; rotate_left; (go_simp <;> with_reducible rfl); simp only [nP]
                  refine plan_nil ?_; simp only [tailL, List.filterMap_nil]
                  clear fM
                  have fM := HM.out.fa
                  go_wp2_with fail
                  all_goals clear fM
                  refine NoPanic.ok ?_
                  have fM := HM.out.fa
                  go_wp2_with fail
                  all_goals clear fM
                  go_roundw
                  case rel =>
                    refine ⟨p + 1, by omega, by go_num, Lib.hid ?_⟩
                    rw [HFL.out]
                    apply Mem.mem
                    · skip
                      exact HM.out.to
                    intro w8 M
                    exact Mem.sub M (by repeat first | exact Sub.nil | refine Sub.cons (by with_reducible repeat first | exact ph | apply pt) ?_)
                  case measure => simp [intOf]; omega
          · have g1 : ¬ (p : Int) < 4 := by omega
            clear hlt hp
            have fM := HM.out.fa
            go_wp2_with fail
            all_goals clear fM
            refine (works_any _).mono ?_
            rintro r w24 ⟨rfl, hE⟩
            replace HM := Lib.hid (HM.out.ext hE)
            clear hE
            have fM := HM.out.fa
            go_wp2_with fail
            all_goals clear fM
            refine nxt HM fun w25 M => ?_
            clear HM; have HM := M; clear M
            obtain ⟨Ahk, hk⟩ := HM.out.get (r := markR D0) (by with_reducible repeat first | exact ph | apply pt)
            refine leaves_marks [D0] _ (by simp) ?_ ?_
            · intro D hD
              simp only [List.mem_cons, List.not_mem_nil, or_false] at hD
              obtain rfl := hD
              exact hk.2
            · intro w' hk9
              obtain ⟨G1, g1, -, g2⟩ := (HM.out.pick (r := markR D0) (by with_reducible repeat first | exact ph | apply pt)).upd
              have e1 : w.heap.size ≤ D0 := (g2 _ ((g1.1 _).2 rfl)).resolve_left (noB _)
              refine ⟨.bool true, by simp [results, Tryd.results5], rfl, ?_⟩
              refine HM.out.extTo.then hk9 fun i hi h => ?_
              simp only [List.mem_cons, List.not_mem_nil, or_false] at h
              omega
end Go.Proofs.YthhdgjofagdjeaaDoor
end
section
/- The walk of JudgeCounts, its arms joined. Conditions: its argument lies as 'Sns' says; unicode/utf8's two tables read as their initialisers lay them. -/
set_option linter.unusedVariables false
set_option linter.unusedSimpArgs false
namespace Go.Proofs.YthhdgjofagdjeaaDoor
open Go.RowKit Go.Shelf
theorem counts_walk {A : Nat → Prop} (w : World) (v : Value) (l : List Sn) (h : Sns w A v l) (hl : l.length ≤ 9223372036854775807) (hA : ∀ k, A k → k < w.heap.size) (hT : Tabs w) :
    Calls Tryd.prog 5 #[v] w fun e w' => e = .returned (.bool true) ∧ Ext w w' := by
  cases hf : fewB l 60 with
  | false => exact counts_few w v l h hl hA hT hf
  | true => exact (counts_cut w v l (Lib.hid h) (Lib.hid hl) (Lib.hid hA) (Lib.hid hT) (Lib.hid hf)).go (counts_arm0 w v l _ _ _ _ _) (counts_arm1 w v l _ _ _ _ _)
end Go.Proofs.YthhdgjofagdjeaaDoor
end
