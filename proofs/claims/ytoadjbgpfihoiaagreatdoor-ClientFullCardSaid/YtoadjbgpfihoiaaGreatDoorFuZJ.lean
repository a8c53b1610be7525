/- Texts CS, CW, CX, CY, CZ, one behind the other. Conditions: as each says. -/
import Derived.Test.YtoadjbgpfihoiaaGreatDoorFuZH
import Derived.Test.YtoadjbgpfihoiaaGreatDoorFuZI
set_option linter.unusedVariables false
set_option linter.unusedSimpArgs false
set_option maxHeartbeats 8000000
set_option maxRecDepth 100000
namespace Go.Proofs.YtoadjbgpfihoiaaGreatDoor
open Go.RowKit
section
attribute [local go_sem] Oper.semAt_some
theorem ty_cells {w : World} {cb : Nat} {lv kv wv bv : Value} {c : Cl} (h : Box w cb 112 (clC lv kv wv bv c)) : (∀ i (h : i < c.ty.list.length), w.cell? ⟨cb, 9 + i, none⟩ = some (.bool c.ty.list[i])) ∧ ∀ i (h : i < c.he.list.length), w.cell? ⟨cb, 25 + i, none⟩ = some (.bool c.he.list[i]) := by
 constructor
 · intro i hi
   rw [h.reads.1]; have h16 : i < 16 := hi; have := lt16 h16; rcases this with rfl | rfl | rfl | rfl | rfl | rfl | rfl | rfl | rfl | rfl | rfl | rfl | rfl | rfl | rfl | rfl <;> rfl
 · intro i hi
   rw [h.reads.1]; have h16 : i < 16 := hi; have := lt16 h16; rcases this with rfl | rfl | rfl | rfl | rfl | rfl | rfl | rfl | rfl | rfl | rfl | rfl | rfl | rfl | rfl | rfl <;> rfl
theorem cstate_any {A : Nat → Prop} (w : World) (cb : Nat) (c : Cl) (h : (clR cb c).p A w) (hl : c.m.lines.length ≤ 1000000) (hw : c.waits.length ≤ 1000000) :
 Calls Tryz.prog 15 #[.pointer (some ⟨cb, 0, none⟩)] w fun e w' => ∃ v1 v2 v3 v4, e = .returned (.agg #[.int .i64 c.member, .int .i64 c.m.next, .int .i64 c.made, .int .i64 c.why, v1, v2, v3, v4, .bool c.on]) ∧
  Upd A w w' (listR [rowR tenE v1 c.m.lines, rowR tenE v2 c.waits, rowR intE v3 (placesL 0 c.ty.list), rowR intE v4 (placesL 0 c.he.list), clR cb c]) := by
 obtain ⟨lv, kv, wv, bv, hm⟩ := (Mem.start h).clOpen; have HM := Hd hm; have HLN := Hd hl; have HWL := Hd hw; clear hm h hl hw; go_enter Tryz.func15, Tryz.ntmps15
 have fM := HM.out.fa; go_wp2_with fail; all_goals clear fM
 obtain ⟨k2, hk2⟩ : ∃ q, w.heap.size = q := ⟨_, rfl⟩; refine nxt HM fun w1 M => ?_
 replace HM := M; clear M; rw [hk2] at HM ⊢; clear hk2; obtain ⟨_, hb⟩ := HM.out.get (r := cellsR cb 112 (clC lv kv wv bv c)) pk; refine (cnone_at w1 cb true (hb.2.reads.1 44)).mono ?_; rintro e w2 ⟨rfl, hw⟩; rw [hw]; clear hw w2 hb; have fM := HM.out.fa; go_wp2_with fail; all_goals clear fM
 have fM := HM.out.fa; have hE0 : Keeps NoB w1 w1.drew := (Keeps.refl _ _).drew; refine rgE [(0, 0), (0, 1), (0, 2), (1, 3), (0, 4), (0, 5), (0, 6), (0, 7), (1, 8), (0, 9), (0, 10), (0, 11), (1, 12), (0, 13), (0, 14), (0, 15), (1, 16), (0, 17), (0, 18), (0, 19), (0, 20), (3, 21), (0, 23), (0, 24), (0, 25), (1, 26), (0, 28), (0, 29), (0, 30), (0, 31), (0, 33), (0, 34), (0, 35), (0, 36), (0, 38), (0, 39), (0, 40), (1, 41), (2, 22), (2, 27), (2, 32), (2, 37), (0, 42)] [3, 8, 12, 16, 26, 41] [22, 27, 32, 37, 43] [43] ?_ (hp := (plan3 [0, 1, 3, 7, 0, 16, 48, 112, 240, 0, 512, 1536, 3584, 0, 8192, 24576, 57344, 0, 131072, 393216, 917504, 1966080, 4063232, 0, 8388608, 25165824, 58720256, 134086656, 0, 268435456, 805306368, 1879048192, 4294836224, 0, 8589934592, 25769803776, 60129542144, 137438822400, 0, 274877906944, 824633720832, 1924145348608, 4398046511103, 8796093022207] (by kernel_rfl) rfl (by kernel_rfl))); simp only [planL, nL]; iterate 38 (first | (refine pM _ rfl rfl ?_; simp only [nP, nE]) | (refine pR (by rfl) (fun W => by go_simp <;> with_reducible rfl) ?_; simp only [nP]) | (refine pX (by rfl) (by go_simp <;> with_reducible rfl) ?_; simp only [nP]) | (refine pL (by rfl) (fun W => by go_simp <;> with_reducible rfl) ?_; simp only [nP]))
 refine plan_does rfl (fun K hK => ?_); go_wp2_with fail; skip
 refine Mem.callE (wr := w1) HM.out.to (by repeat (first | assumption | exact Keeps.refl _ _ | with_reducible apply Keeps.drew | with_reducible apply Keeps.alloc)) fun w3 M hE3 => ?_
 replace HM := Hd M; clear M; obtain ⟨A1, h1⟩ := HM.out.get (r := linR lv kv c.m.lines c.k.lines) pk; obtain ⟨B1, hr1, -⟩ := h1.1; refine (eclone_any w3 lv c.m.lines hr1 HLN.out).mono ?_; rintro e w4 ⟨v1, rfl, hU⟩; have hE4 := hE3.ext hU.keepsTo; have hm := HM.out.newU hU; obtain ⟨a1, c1, rfl⟩ := hm.fact fun A h => row_len h
 replace HM := Hd hm; clear hU h1 hr1 hm; clear A1 B1; refine hK _ _ ⟨ClsE.of (by assumption), ?_⟩; clear hK K; try simp only [nP]
 refine plan_does rfl (fun K hK => ?_); go_wp2_with fail; skip
 refine Mem.callE (wr := w1) HM.out.to (by repeat (first | assumption | exact Keeps.refl _ _ | with_reducible apply Keeps.drew | with_reducible apply Keeps.alloc)) fun w5 M hE5 => ?_
 replace HM := Hd M; clear M; obtain ⟨A1, h1⟩ := HM.out.get (r := rowR tenE wv c.waits) pk; refine (eclone_any w5 wv c.waits h1 HWL.out).mono ?_; rintro e w6 ⟨v2, rfl, hU⟩; have hE6 := hE5.ext hU.keepsTo; have hm := HM.out.newU hU; obtain ⟨a2, c2, rfl⟩ := hm.fact fun A h => row_len h
 replace HM := Hd hm; clear hU h1 hm; clear A1; refine hK _ _ ⟨ClsE.of (by assumption), ?_⟩; clear hK K; try simp only [nP]
 refine plan_does rfl (fun K hK => ?_); go_wp2_with fail; skip
 refine Mem.callE (wr := w1) HM.out.to (by repeat (first | assumption | exact Keeps.refl _ _ | with_reducible apply Keeps.drew | with_reducible apply Keeps.alloc)) fun w7 M hE7 => ?_
 replace HM := Hd M; clear M; obtain ⟨A1, h1⟩ := HM.out.get (r := cellsR cb 112 (clC lv kv wv bv c)) pk; refine (places_any w7 cb 9 c.ty.list (by show 16 ≤ 1000; decide) (ty_cells h1.2).1).mono ?_; rintro e w8 ⟨v3, rfl, hU⟩; have hE8 := hE7.ext hU.keepsTo; have hm := HM.out.newU hU; obtain ⟨a3, c3, rfl⟩ := hm.fact fun A h => row_len h
 replace HM := Hd hm; clear hU h1 hm; clear A1; refine hK _ _ ⟨ClsE.of (by assumption), ?_⟩; clear hK K; try simp only [nP]
 refine plan_does rfl (fun K hK => ?_); go_wp2_with fail; skip
 refine Mem.callE (wr := w1) HM.out.to (by repeat (first | assumption | exact Keeps.refl _ _ | with_reducible apply Keeps.drew | with_reducible apply Keeps.alloc)) fun w9 M hE9 => ?_
 replace HM := Hd M; clear M; obtain ⟨A1, h1⟩ := HM.out.get (r := cellsR cb 112 (clC lv kv wv bv c)) pk; refine (places_any w9 cb 25 c.he.list (by show 16 ≤ 1000; decide) (ty_cells h1.2).2).mono ?_; rintro e w10 ⟨v4, rfl, hU⟩; have hE10 := hE9.ext hU.keepsTo; have hm := HM.out.newU hU; obtain ⟨a4, c4, rfl⟩ := hm.fact fun A h => row_len h
 replace HM := Hd hm; clear hU h1 hm; clear A1; refine hK _ _ ⟨ClsE.of (by assumption), ?_⟩; clear hK K; try simp only [nP]
 refine pR rfl (fun W => by go_simp <;> with_reducible rfl) ?_; simp only [nP]; refine plan_nil ?_; simp only [tailL, List.filterMap_cons, List.filterMap_nil, nL]; change wpList _ _ _ (_ :: []) _ _; clear fM; have fM := HM.out.fa; go_wp2_with fail; all_goals clear fM
 refine nxt HM fun w11 M => ?_
 replace HM := M; clear M; obtain ⟨_, hb⟩ := HM.out.get (r := cellsR k2 42 _) ph; refine bodyPost_ret (results_c Tryz.results15 _ rfl (run_loadVar_row w11 _ _ 42 _ (0, 0) _ hb.2 Tryz.underlying42 rfl (by kernel_rfl))) rfl ?_; refine ⟨_, _, _, _, rfl, ?_⟩; have hm := Mem.clClose (c := c) (L := [rowR tenE (.slice a1 c.m.lines.length c1) c.m.lines, rowR tenE (.slice a2 c.waits.length c2) c.waits, rowR intE (.slice a3 (placesL 0 c.ty.list).length c3) (placesL 0 c.ty.list), rowR intE (.slice a4 (placesL 0 c.he.list).length c4) (placesL 0 c.he.list)]) (lv := lv) (kv := kv) (wv := wv) (bv := bv) (Mem.sub HM.out (by repeat first | exact Sub.nil | refine Sub.cons (by with_reducible repeat first | exact ph | apply pt) ?_)); exact (Mem.list' (L1 := [rowR tenE (.slice a1 c.m.lines.length c1) c.m.lines, rowR tenE (.slice a2 c.waits.length c2) c.waits, rowR intE (.slice a3 (placesL 0 c.ty.list).length c3) (placesL 0 c.ty.list), rowR intE (.slice a4 (placesL 0 c.he.list).length c4) (placesL 0 c.he.list), clR cb c]) (L := []) (Mem.sub hm (by repeat first | exact Sub.nil | refine Sub.cons (by with_reducible repeat first | exact ph | apply pt) ?_))).upd
end
section
attribute [local go_sem] Oper.semAt_some
theorem kraw_pos (x : Sd) (h : sdB x = true) : (frameL (bodyL x)).length ≠ 0 := by
 unfold frameL; rw [List.length_append]; have := numL_len ((bodyL x).length + 4); omega
theorem hears_one (c : Cl) (x : Sd) (hx : sdB x = true) (hon : c.on = true) (hb : c.bytes = []) :
 c.hears (frameL (bodyL x)) = if (c.hear x).2.2 ≠ 0 then ((c.hear x).1.ended (c.hear x).2.2, 0, (c.hear x).2.2) else ((c.hear x).1, if (c.hear x).2.1 then 1 else 0, 0) := by
 obtain ⟨l, hl⟩ : ∃ l, frameL (bodyL x) = l := ⟨_, rfl⟩
 have hr : readL l = (x, l.length, 0) := by
  have := readL_app x hx []; rw [List.append_nil, hl] at this; exact this
 have hl0 : l.length ≠ 0 := by rw [← hl]; exact kraw_pos x hx
 have e1 : ({ c with bytes := c.bytes ++ l } : Cl) = { c with bytes := l } := by rw [hb]; rfl
 have e2 : ({ c with bytes := l } : Cl).cut l.length = c := by
  obtain ⟨m, k, member, made, waits, ty, he, bytes, on, gr, why⟩ := c; dsimp only at hb; subst hb; show (Cl.mk m k member made waits ty he (l.drop l.length) on gr why) = _
  rw [List.drop_length]
 have hal : ({ c with bytes := l } : Cl).all 0 = if (c.hear x).2.2 ≠ 0 then ((c.hear x).1, 0, (c.hear x).2.2) else ((c.hear x).1, if (c.hear x).2.1 then 1 else 0, 0) := by
  rw [all_step]; rw [if_neg (by rw [hon]; simp)]; rw [show (readL ({ c with bytes := l } : Cl).bytes) = (x, l.length, 0) from hr]; dsimp only; rw [if_neg (fun h => h rfl), if_neg hl0, e2]; split
  · rfl
  · rename_i hno
    rw [all_step]
    have h0 : (c.hear x).1.bytes = [] := by
     rcases hear_bytes c x with h | h
     · rw [h, hb]
     · exact h
    by_cases ho : (c.hear x).1.on = false
    · rw [if_pos ho]
    · rw [if_neg ho, h0]
      have hn : readL [] = (Sd.of 0, 0, 0) := by decide +kernel
      rw [hn]; dsimp only; rw [if_neg (fun h => h rfl), if_pos rfl]
 unfold Cl.hears; rw [hl, if_neg (by rw [hon]; simp), e1]; by_cases hq : (c.hear x).2.2 ≠ 0
 · rw [if_pos hq] at hal ⊢
   rw [hal]; dsimp only; rw [if_pos hq]
 · rw [if_neg hq] at hal ⊢
   rw [hal]; dsimp only; rw [if_neg (fun h => h rfl)]
theorem knum_any (w : World) (n : Int) : Calls Tryz.prog 13 #[.int .i64 n] w fun e w' => e = .returned (.int .i64 n) ∧ w' = w := by
 go_enter Tryz.func13, Tryz.ntmps13
 go_wp2_with fail; go_ret; exact ⟨rfl, rfl⟩
end
section
attribute [local go_sem] Oper.semAt_some
theorem kraw_any (w : World) (s : Sd) (hb : sdB s = true) (hl : s.text.length ≤ 300 ∧ s.e.text.length ≤ 300 ∧ s.token.length ≤ 300) :
 Calls Tryz.prog 49 #[s.v] w fun e w' => ∃ v', e = .returned v' ∧ Upd NoB w w' (bytR v' (rawS s)) := by
 have HM := Hd (Mem.start0 w); unfold Sd.v Sd.cells; go_enter Tryz.func49, Tryz.ntmps49
 have fM := HM.out.fa; go_wp2_with (first | ((with_reducible refine at_load 37 _ rfl ?_); refine ldW 37 _ rfl rfl rfl HM.out Tryz.underlying37 rfl infoSdc ?_) | (((with_reducible refine at_box 37 _ rfl ?_); refine boW 37 _ rfl rfl rfl HM.out ?_; intro w9 n9 M); replace HM := Hd M; clear M fM; have fM := HM.out.fa)); all_goals clear fM
 refine nxt HM fun w1 M => ?_
 replace HM := M; clear M; have hc := docRaw_any w1 s hb hl; unfold Sd.v Sd.cells at hc; refine hc.mono ?_; rintro e w2 ⟨v', rfl, hU⟩; replace HM := Hd (HM.out.newU hU); clear hU hc; go_wp2_with fail; go_ret; exact ⟨v', rfl, HM.out.upd⟩
theorem ksaid_any {A : Nat → Prop} (w : World) (hT : Tabs w) (v : Value) (l : List UInt8) (h : Bytes w A v l) (hA : ∀ k, A k → k < w.heap.size) (hl : l.length ≤ 1099511627776) :
 Calls Tryz.prog 14 #[v] w fun e w' => e = .returned (readL l).1.v ∧ Ext w w' := by
 have HM := Hd (Mem.start0 w); have HT := Hd hT; have HB := Hd h; have HA := Hd hA; clear hT h hA; go_enter Tryz.func14, Tryz.ntmps14
 have fM := HM.out.fa; go_wp2_with (((with_reducible refine at_alloc 37 rfl ?_); refine alW 37 rfl rfl (zeroSdc _) HM.out ?_; intro w9 n9 M); replace HM := Hd M; clear M fM; have fM := HM.out.fa); all_goals clear fM
 rename Nat => k0
 refine nxt HM fun w1 M => ?_
 replace HM := M; clear M; refine (docRead_any w1 w1 (HT.out.ext HM.out.extTo) (Keeps.refl _ _) v l (HB.out.ext HM.out.extTo) (fun k hk => Nat.lt_of_lt_of_le (HA.out k hk) HM.out.extTo.size) hl).mono ?_; rintro e w2 ⟨rfl, hE⟩; replace HM := Hd (HM.out.ext hE); clear hE; obtain ⟨s, hs⟩ : ∃ s, (readL l).1 = s := ⟨_, rfl⟩; rw [hs]; unfold Sd.v Sd.cells; have fM := HM.out.fa; go_wp2_with (first | ((with_reducible refine at_load 37 _ rfl ?_); refine ldW 37 _ rfl rfl rfl HM.out Tryz.underlying37 rfl infoSdc ?_) | ((first | ((with_reducible refine at_store 37 _ _ rfl ?_); refine stW 37 _ _ rfl rfl rfl rfl HM.out infoSdc ?_; intro w9 M) | ((with_reducible refine at_alloc 37 rfl ?_); refine alW 37 rfl rfl (zeroSdc _) HM.out ?_; intro w9 n9 M)); replace HM := Hd M; clear M fM; have fM := HM.out.fa)); all_goals clear fM
 refine nxt HM fun w3 M => ?_
 replace HM := M; clear M; obtain ⟨_, hb⟩ := HM.out.get (r := cellsR k0 37 s.cells) pk; refine bodyPost_ret (results_c Tryz.results14 _ rfl (run_loadVar_row w3 _ _ 37 _ (0, 0) _ hb.2 Tryz.underlying37 rfl (by kernel_rfl))) rfl ?_; exact ⟨by rw [hs]; rfl, HM.out.extTo⟩
theorem rawsX_one {x : Sd} (h : sdB x = true) : rawsX [x] = rawS x := by
 unfold rawsX rawX; simp [h]
theorem said_one {x : Sd} (h : sdB x = true) : (readL (rawsX [x])).1 = x := by
 rw [rawsX_one h]; have := readL_app x h []; rw [List.append_nil] at this; rw [this]
abbrev abcL : List UInt8 := [97, 98, 99]
abbrev hiL : List UInt8 := [104, 105]
abbrev kw5 : Sd := { Sd.of 8 with index := 5 }
abbrev kl5 : Sd := { Sd.of 9 with index := 5, e := ⟨2, 0, 0, []⟩ }
abbrev kl7 : Sd := { Sd.of 9 with index := 7, e := ⟨2, 0, 0, []⟩ }
abbrev kc0 : Cl := newC 3 abcL
abbrev kc1 : Cl := { kc0 with bytes := [], on := true, gr := false }
abbrev kc2 : Cl := ⟨⟨[], [], 5⟩, ⟨abcL, [], -1⟩, 3, 0, [], Bx.none, Bx.none, [], true, true, 0⟩
abbrev kc3 : Cl := ⟨⟨[], [⟨2, 0, 0, []⟩], 6⟩, ⟨abcL, [], -1⟩, 3, 0, [], Bx.none, Bx.none, [], true, true, 0⟩
abbrev kc4 : Cl := ⟨⟨[], [⟨2, 0, 0, []⟩], 6⟩, ⟨abcL, [], -1⟩, 3, 0, [], Bx.none, Bx.none, [], false, true, 381⟩
abbrev kc5 : Cl := ⟨⟨[], [⟨2, 0, 0, []⟩], 6⟩, ⟨abcL, [], -1⟩, 3, 0, [], Bx.none, Bx.none, [], true, false, 381⟩
abbrev kc6 : Cl := ⟨⟨[], [⟨2, 0, 0, []⟩], 6⟩, ⟨abcL, [], -1⟩, 3, 1, [⟨4, 3, 1, hiL⟩], Bx.none, Bx.none, [], true, false, 381⟩
theorem kb_w5 : sdB kw5 = true := by decide +kernel
theorem kb_l5 : sdB kl5 = true := by decide +kernel
theorem kb_l7 : sdB kl7 = true := by decide +kernel
theorem kb_he : sdB (helloS kc0) = true := by decide +kernel
theorem kb_sa : sdB (sayS ⟨4, 3, 1, hiL⟩) = true := by decide +kernel
theorem kb_te : sdB (tellS kc6 5 false) = true := by decide +kernel
theorem kh_w5 : kc1.hears (rawS kw5) = (kc2, 0, 0) := by rw [hears_one kc1 kw5 kb_w5 rfl rfl]; rfl
theorem kh_l5 : kc2.hears (rawS kl5) = (kc3, 1, 0) := by rw [hears_one kc2 kl5 kb_l5 rfl rfl]; rfl
theorem kh_l7 : kc3.hears (rawS kl7) = (kc4, 0, 381) := by rw [hears_one kc3 kl7 kb_l7 rfl rfl]; rfl
theorem khi : chk hiL = 0 := by decide +kernel
theorem ks_4 : kc4.say hiL = (kc4, [], 380) := by
 unfold Cl.say; rw [if_neg (fun h => h khi), if_neg (by decide), if_pos rfl]
theorem ks_5 : kc5.say hiL = (kc6, rawsX [sayS ⟨4, 3, 1, hiL⟩], 0) := by
 unfold Cl.say; rw [if_neg (fun h => h khi), if_neg (by decide), if_neg (by decide)]; rfl
theorem kt_6 : kc6.tell 5 false = (rawsX [tellS kc6 5 false], 0) := by
 unfold Cl.tell; rw [if_neg (by decide), if_neg (by decide), if_neg (by decide)]
end
section
attribute [local go_sem] Oper.semAt_some
theorem khb (c : Cl) (x : Sd) (h : sdB x = true) (hm : c.m.lines.length ≤ 1) (hw : c.waits.length ≤ 1) (hb : c.bytes = []) : HearB { c with bytes := c.bytes ++ rawS x } 0 := by
 have h1 := raw_len x h; have h2 : (c.bytes ++ rawS x).length = (rawS x).length := by rw [hb]; rfl
 refine ⟨?_, ?_, ?_⟩
 · show 0 + (c.bytes ++ rawS x).length ≤ 1000000000
   omega
 · show c.m.lines.length + (c.bytes ++ rawS x).length ≤ 1000000
   omega
 · show c.waits.length ≤ 1000
   omega
theorem klen (x : Sd) : (rawsX [x]).length ≤ 1099511627776 := by
 have := rawsX_len [x]; simp at this; omega
theorem kvHe : (helloS kc0).v = .agg #[.int .i64 1, .int .i64 3, .int .i64 0, .int .i64 0, .bool false, .string ⟨#[]⟩, .string ⟨#[97, 98, 99]⟩, .int .i64 0, .int .i64 0, .int .i64 0, .string ⟨#[]⟩] := by kernel_rfl
theorem keHe (W : World) : (binOp .eql 37 (.agg #[.int .i64 1, .int .i64 3, .int .i64 0, .int .i64 0, .bool false, .string ⟨#[]⟩, .string ⟨#[97, 98, 99]⟩, .int .i64 0, .int .i64 0, .int .i64 0, .string ⟨#[]⟩]) (.agg #[.int .i64 1, .int .i64 3, .int .i64 0, .int .i64 0, .bool false, .string ⟨#[]⟩, .string ⟨#[97, 98, 99]⟩, .int .i64 0, .int .i64 0, .int .i64 0, .string ⟨#[]⟩])).run Tryz.prog W = .ok (.bool true) W := by kernel_rfl
theorem kvSa : (sayS ⟨4, 3, 1, hiL⟩).v = .agg #[.int .i64 4, .int .i64 0, .int .i64 1, .int .i64 0, .bool false, .string ⟨#[104, 105]⟩, .string ⟨#[]⟩, .int .i64 0, .int .i64 0, .int .i64 0, .string ⟨#[]⟩] := by kernel_rfl
theorem keSa (W : World) : (binOp .eql 37 (.agg #[.int .i64 4, .int .i64 0, .int .i64 1, .int .i64 0, .bool false, .string ⟨#[104, 105]⟩, .string ⟨#[]⟩, .int .i64 0, .int .i64 0, .int .i64 0, .string ⟨#[]⟩]) (.agg #[.int .i64 4, .int .i64 0, .int .i64 1, .int .i64 0, .bool false, .string ⟨#[104, 105]⟩, .string ⟨#[]⟩, .int .i64 0, .int .i64 0, .int .i64 0, .string ⟨#[]⟩])).run Tryz.prog W = .ok (.bool true) W := by kernel_rfl
theorem kvTe : (tellS kc6 5 false).v = .agg #[.int .i64 5, .int .i64 0, .int .i64 0, .int .i64 6, .bool false, .string ⟨#[]⟩, .string ⟨#[]⟩, .int .i64 0, .int .i64 0, .int .i64 0, .string ⟨#[]⟩] := by kernel_rfl
theorem keTe (W : World) : (binOp .eql 37 (.agg #[.int .i64 5, .int .i64 0, .int .i64 0, .int .i64 6, .bool false, .string ⟨#[]⟩, .string ⟨#[]⟩, .int .i64 0, .int .i64 0, .int .i64 0, .string ⟨#[]⟩]) (.agg #[.int .i64 5, .int .i64 0, .int .i64 0, .int .i64 6, .bool false, .string ⟨#[]⟩, .string ⟨#[]⟩, .int .i64 0, .int .i64 0, .int .i64 0, .string ⟨#[]⟩])).run Tryz.prog W = .ok (.bool true) W := by kernel_rfl
theorem kworks_any (w : World) (hT : Tabs w) : Calls Tryz.prog 9 #[] w fun e w' => e = .returned (.bool true) ∧ Ext w w' := by
 have HM := Hd (Mem.start0 w); have HX := Hd (show TabX NoB w from ⟨hT, noB _, noB _⟩); clear hT; go_enter Tryz.func9, Tryz.ntmps9
 have fM := HM.out.fa; go_wp2_with fail; all_goals clear fM
 refine (cnew_yes w 3 abcL (by decide) (by decide)).mono ?_; rintro e wa ⟨cb, rfl, hU⟩; replace HM := Hd (HM.out.newU hU); clear hU; have fM := HM.out.fa; go_wp2_with fail; all_goals clear fM
 obtain ⟨C, hC, hCI, hS⟩ := (HM.out.pick (r := clR cb kc0) pk).stepIn; refine (cconnect_any wa cb kc0 hC (tabX_ok.step HX.out hCI.1 hCI.2) (by decide)).mono ?_; rintro e wb ⟨va, rfl, hU⟩; replace HM := Hd (hS _ _ hU); clear hU hS hC hCI; clear C; replace HM := Hd (HM.out.unlist); simp only [List.cons_append, List.nil_append] at HM; have fM := HM.out.fa; go_wp2_with fail; all_goals clear fM
 refine (kraw_any _ kw5 kb_w5 ⟨by decide, by decide, by decide⟩).mono ?_; rintro e wa ⟨vb, rfl, hU⟩; replace HM := Hd (HM.out.newU hU); clear hU; have fM := HM.out.fa; go_wp2_with fail; all_goals clear fM
 obtain ⟨C, D, hC, hD, hd, hIn, hS⟩ := HM.out.beside (r := clR cb kc1) (x := bytR vb (rawS kw5)) pk pk; refine (chear_any _ cb kc1 vb (rawS kw5) hC (tabX_ok.step HX.out hIn.1 hIn.2) (bytR.bytes hD) hd (khb kc1 kw5 kb_w5 (by decide) (by decide) rfl)).mono ?_; rintro e wa ⟨rfl, hU⟩; rw [kh_w5] at hU ⊢; replace HM := Hd (hS _ _ hU); clear hU hS hC hD hd hIn; clear C D; have fM := HM.out.fa; go_wp2_with fail; all_goals clear fM
 obtain ⟨k7, hk7⟩ : ∃ q, wa.heap.size = q := ⟨_, rfl⟩; refine nxt HM fun wc M => ?_
 replace HM := M; clear M; rw [hk7] at HM ⊢; clear hk7; refine (kraw_any _ kl5 kb_l5 ⟨by decide, by decide, by decide⟩).mono ?_; rintro e wa ⟨vb, rfl, hU⟩; replace HM := Hd (HM.out.newU hU); clear hU; have fM := HM.out.fa; go_wp2_with fail; all_goals clear fM
 obtain ⟨C, D, hC, hD, hd, hIn, hS⟩ := HM.out.beside (r := clR cb kc2) (x := bytR vb (rawS kl5)) pk pk; refine (chear_any _ cb kc2 vb (rawS kl5) hC (tabX_ok.step HX.out hIn.1 hIn.2) (bytR.bytes hD) hd (khb kc2 kl5 kb_l5 (by decide) (by decide) rfl)).mono ?_; rintro e wa ⟨rfl, hU⟩; rw [kh_l5] at hU ⊢; replace HM := Hd (hS _ _ hU); clear hU hS hC hD hd hIn; clear C D; have fM := HM.out.fa; go_wp2_with fail; all_goals clear fM
 refine (kraw_any _ kl7 kb_l7 ⟨by decide, by decide, by decide⟩).mono ?_; rintro e wa ⟨vb, rfl, hU⟩; replace HM := Hd (HM.out.newU hU); clear hU; have fM := HM.out.fa; go_wp2_with fail; all_goals clear fM
 obtain ⟨C, D, hC, hD, hd, hIn, hS⟩ := HM.out.beside (r := clR cb kc3) (x := bytR vb (rawS kl7)) pk pk; refine (chear_any _ cb kc3 vb (rawS kl7) hC (tabX_ok.step HX.out hIn.1 hIn.2) (bytR.bytes hD) hd (khb kc3 kl7 kb_l7 (by decide) (by decide) rfl)).mono ?_; rintro e wa ⟨rfl, hU⟩; rw [kh_l7] at hU ⊢; replace HM := Hd (hS _ _ hU); clear hU hS hC hD hd hIn; clear C D; have fM := HM.out.fa; go_wp2_with fail; all_goals clear fM
 replace HM := Hd (show Mem NoB w wa [clR cb kc4, bytR va (rawsX [helloS kc0])] from Mem.sub HM.out (by repeat first | exact Sub.nil | refine Sub.cons (by with_reducible repeat first | exact ph | apply pt) ?_)); obtain ⟨C, hC, hCI, hS⟩ := (HM.out.pick (r := clR cb kc4) pk).stepIn; refine (csay_any wa cb kc4 hiL (by decide) (by decide) (by decide) hC (tabX_ok.step HX.out hCI.1 hCI.2)).mono ?_; rintro e wb ⟨v1, rfl, hU⟩; rw [ks_4] at hU ⊢; dsimp only at hU ⊢; replace HM := Hd (hS _ _ hU); clear hU hS hC hCI; clear C; replace HM := Hd (show Mem NoB w wb [bytR v1 [], clR cb kc4, bytR va (rawsX [helloS kc0])] from HM.out.unlist); have fM := HM.out.fa; go_wp2_with fail; all_goals clear fM
 obtain ⟨C, hC, hCI, hS⟩ := (HM.out.pick (r := clR cb kc4) pk).stepIn; refine (cconnect_any wb cb kc4 hC (tabX_ok.step HX.out hCI.1 hCI.2) (by decide)).mono ?_; rintro e wc ⟨v2, rfl, hU⟩; replace HM := Hd (hS _ _ hU); clear hU hS hC hCI; clear C; replace HM := Hd (show Mem NoB w wc [bytR v2 (rawsX [helloS kc4]), clR cb kc5, bytR v1 [], bytR va (rawsX [helloS kc0])] from HM.out.unlist); replace HM := Hd (show Mem NoB w wc [clR cb kc5, bytR va (rawsX [helloS kc0])] from Mem.sub HM.out (by repeat first | exact Sub.nil | refine Sub.cons (by with_reducible repeat first | exact ph | apply pt) ?_)); have fM := HM.out.fa; go_wp2_with fail; all_goals clear fM
 obtain ⟨C, hC, hCI, hS⟩ := (HM.out.pick (r := clR cb kc5) pk).stepIn; refine (csay_any wc cb kc5 hiL (by decide) (by decide) (by decide) hC (tabX_ok.step HX.out hCI.1 hCI.2)).mono ?_; rintro e wd ⟨vs, rfl, hU⟩; rw [ks_5] at hU ⊢; dsimp only at hU ⊢; replace HM := Hd (hS _ _ hU); clear hU hS hC hCI; clear C; replace HM := Hd (show Mem NoB w wd [bytR vs (rawsX [sayS ⟨4, 3, 1, hiL⟩]), clR cb kc6, bytR va (rawsX [helloS kc0])] from HM.out.unlist); have fM := HM.out.fa; go_wp2_with fail; all_goals clear fM
 obtain ⟨C, hC, hCI, hS⟩ := (HM.out.pick (r := clR cb kc6) pk).stepIn; refine (cagain_any wd cb kc6 hC (tabX_ok.step HX.out hCI.1 hCI.2) (by decide) (by decide)).mono ?_; rintro e we ⟨vd, rfl, hU⟩; replace HM := Hd (hS _ _ hU); clear hU hS hC hCI; clear C; replace HM := Hd (show Mem NoB w we [bytR vd (rawsX [sayS ⟨4, 3, 1, hiL⟩]), clR cb kc6, bytR vs (rawsX [sayS ⟨4, 3, 1, hiL⟩]), bytR va (rawsX [helloS kc0])] from HM.out.unlist); have fM := HM.out.fa; go_wp2_with fail; all_goals clear fM
 obtain ⟨C, hC, hCI, hS⟩ := (HM.out.pick (r := clR cb kc6) pk).stepIn; refine (ctell_any we cb kc6 5 false (by unfold I64; decide) hC (tabX_ok.step HX.out hCI.1 hCI.2)).mono ?_; rintro e wf ⟨vp, rfl, hU⟩; rw [kt_6] at hU ⊢; dsimp only at hU ⊢; replace HM := Hd (hS _ _ hU); clear hU hS hC hCI; clear C; replace HM := Hd (show Mem NoB w wf [bytR vp (rawsX [tellS kc6 5 false]), clR cb kc6, bytR vd (rawsX [sayS ⟨4, 3, 1, hiL⟩]), bytR vs (rawsX [sayS ⟨4, 3, 1, hiL⟩]), bytR va (rawsX [helloS kc0])] from HM.out.unlist); have fM := HM.out.fa; go_wp2_with fail; all_goals clear fM
 refine cret (knum_any _ _) ?_; have fM := HM.out.fa; go_wp2_with fail; all_goals clear fM
 refine cret (knum_any _ _) ?_; have fM := HM.out.fa; go_wp2_with fail; all_goals clear fM
 refine cret (knum_any _ _) ?_; have fM := HM.out.fa; go_wp2_with fail; all_goals clear fM
 refine cret (knum_any _ _) ?_; have fM := HM.out.fa; go_wp2_with fail; all_goals clear fM
 refine cret (knum_any _ _) ?_; have fM := HM.out.fa; go_wp2_with fail; all_goals clear fM
 refine cret (knum_any _ _) ?_; have fM := HM.out.fa; go_wp2_with fail; all_goals clear fM
 refine cret (knum_any _ _) ?_; have fM := HM.out.fa; go_wp2_with fail; all_goals clear fM
 refine cret (knum_any _ _) ?_; have fM := HM.out.fa; go_wp2_with fail; all_goals clear fM
 obtain ⟨D1, hD1⟩ := HM.out.get (r := bytR va (rawsX [(helloS kc0)])) pk; refine (ksaid_any wf (tabs_mem HX.out HM.out) va _ (bytR.bytes hD1) (bytR.lt hD1) (klen _)).mono ?_; rintro e wg ⟨rfl, hE⟩; replace HM := Hd (HM.out.ext hE); rw [said_one kb_he, kvHe]; clear hE hD1; clear D1; have hq := keHe; have fM := HM.out.fa; go_wp2_with fail; all_goals clear fM
 clear hq; refine cret (knum_any _ _) ?_; have fM := HM.out.fa; go_wp2_with fail; all_goals clear fM
 refine cret (knum_any _ _) ?_; have fM := HM.out.fa; go_wp2_with fail; all_goals clear fM
 obtain ⟨D1, hD1⟩ := HM.out.get (r := bytR vs (rawsX [(sayS ⟨4, 3, 1, hiL⟩)])) pk; refine (ksaid_any wg (tabs_mem HX.out HM.out) vs _ (bytR.bytes hD1) (bytR.lt hD1) (klen _)).mono ?_; rintro e wg ⟨rfl, hE⟩; replace HM := Hd (HM.out.ext hE); rw [said_one kb_sa, kvSa]; clear hE hD1; clear D1; have hq := keSa; obtain ⟨bx, hbx⟩ : ∃ l, rawsX [sayS ⟨4, 3, 1, hiL⟩] = l := ⟨_, rfl⟩; rw [hbx] at HM; obtain ⟨D1, hD1⟩ := HM.out.get (r := bytR vs bx) pk; obtain ⟨D2, hD2⟩ := HM.out.get (r := bytR vd bx) pk; have hc1 := Bytes.str (bytR.bytes hD1); have hc2 := Bytes.str (bytR.bytes hD2); clear hD1 hD2 hbx; clear D1 D2; have fM := HM.out.fa; go_wp2_with fail; all_goals clear fM
 clear hq hc1 hc2; rename World => wh
 obtain ⟨D1, hD1⟩ := HM.out.get (r := bytR vp (rawsX [(tellS kc6 5 false)])) pk; refine (ksaid_any wh (tabs_mem HX.out HM.out) vp _ (bytR.bytes hD1) (bytR.lt hD1) (klen _)).mono ?_; rintro e wg ⟨rfl, hE⟩; replace HM := Hd (HM.out.ext hE); rw [said_one kb_te, kvTe]; clear hE hD1; clear D1; have hq := keTe; have fM := HM.out.fa; go_wp2_with fail; all_goals clear fM
 clear hq; go_ret; exact ⟨rfl, HM.out.extTo⟩
end
section
attribute [local go_sem] Oper.semAt_some
abbrev exL : List UInt8 := [120]
abbrev fEn (i : Nat) : En := ⟨4, 0, (i : Int) + 1, exL⟩
def fCl (k : Nat) : Cl := ⟨⟨[], [], -1⟩, ⟨[], [], -1⟩, 0, (k : Int), (List.range k).map fEn, Bx.none, Bx.none, [], true, false, 0⟩
theorem chkx : chk exL = 0 := by decide +kernel
theorem fcl_len (k : Nat) : (fCl k).waits.length = k := by simp [fCl]
theorem fcl_say (k : Nat) (h : k < 64) : (fCl k).say exL = (fCl (k + 1), rawsX [sayS (fEn k)], 0) := by
 unfold Cl.say; rw [if_neg (fun h => h chkx), if_neg (by rw [fcl_len]; show ¬ (64 ≤ k ∨ (2147483647 : Int) ≤ (k : Int)); omega), if_neg (by show ¬ (true = false); simp)]
 have h1 : (fCl k).waits ++ [sayE (fCl k) exL] = (fCl (k + 1)).waits := by
  show (List.range k).map fEn ++ [fEn k] = (List.range (k + 1)).map fEn
  rw [List.range_succ, List.map_append]; rfl
 rw [h1]; rfl
theorem fcl_full : (fCl 64).say exL = (fCl 64, [], 3) := by
 unfold Cl.say; rw [if_neg (fun h => h chkx), if_pos (.inl (by rw [fcl_len]; exact Nat.le_refl _))]
theorem sd_say (e : En) (h1 : 1 ≤ e.number ∧ e.number ≤ 2147483647) (h2 : chk e.text = 0) : sdB (sayS e) = true := by
 unfold sdB; rw [show partsOf (sayS e).kind = some [.number 1, .said] from rfl]; simp [Part.clear, Part.may, sayS, Sd.of, h1, h2, En0]
theorem field_num (n : Int) (s : ByteArray) (W : World) : (Instr.field 37 (.agg #[.int .i64 4, .int .i64 0, .int .i64 n, .int .i64 0, .bool false, .string s, .string ⟨#[]⟩, .int .i64 0, .int .i64 0, .int .i64 0, .string ⟨#[]⟩]) 2).run Tryz.prog W = .ok (.int .i64 n) W := by kernel_rfl
theorem field_waits (a b c d : Int) (v1 v2 v3 v4 : Value) (o : Bool) (W : World) : (Instr.field 42 (.agg #[.int .i64 a, .int .i64 b, .int .i64 c, .int .i64 d, v1, v2, v3, v4, .bool o]) 5).run Tryz.prog W = .ok v2 W := by kernel_rfl
theorem full_walk (W : World) (hT : Tabs W) (many : Int) : Calls Tryz.prog 3 #[.int .i64 many] W fun e w' => e = .returned (.bool true) ∧ Ext W w' := by
 have HM := Hd (Mem.start0 W); have HX := Hd (show TabX NoB W from ⟨hT, noB _, noB _⟩); have HT := Hd hT; clear hT; by_cases h0 : many < 0
 · have d0 : decide (many < 0) = true := by simpa using h0
   go_enter Tryz.func3, Tryz.ntmps3
   go_wp2_with fail; refine (kworks_any W HT.out).mono ?_; rintro e w1 ⟨rfl, hE⟩; replace HM := Hd (HM.out.ext hE); clear hE; go_wp2_with fail; go_ret; exact ⟨rfl, HM.out.extTo⟩
 by_cases h1 : 70 < many
 · go_enter Tryz.func3, Tryz.ntmps3
   go_wp2_with fail; refine (kworks_any W HT.out).mono ?_; rintro e w1 ⟨rfl, hE⟩; replace HM := Hd (HM.out.ext hE); clear hE; go_wp2_with fail; go_ret; exact ⟨rfl, HM.out.extTo⟩
 obtain ⟨n, rfl⟩ : ∃ n : Nat, many = n := ⟨many.toNat, by omega⟩; have hn : n ≤ 70 := by omega
 clear h0; go_enter Tryz.func3, Tryz.ntmps3
 go_wp2_with fail; refine (cnew_yes W 0 [] (by decide) (by decide)).mono ?_; rintro e wa ⟨cb, rfl, hU⟩; replace HM := Hd (HM.out.newU hU); clear hU; have fM := HM.out.fa; go_wp2_with fail; all_goals clear fM
 obtain ⟨C, hC, hCI, hS⟩ := (HM.out.pick (r := clR cb (newC 0 [])) pk).stepIn; refine (cconnect_any wa cb (newC 0 []) hC (tabX_ok.step HX.out hCI.1 hCI.2) (by decide)).mono ?_; rintro e wb ⟨va, rfl, hU⟩; replace HM := Hd (hS _ _ hU); clear hU hS hC hCI; clear C; replace HM := Hd (show Mem NoB W wb [bytR va (rawsX [helloS (newC 0 [])]), clR cb (fCl 0)] from HM.out.unlist); replace HM := Hd (show Mem NoB W wb [clR cb (fCl 0)] from Mem.sub HM.out (by repeat first | exact Sub.nil | refine Sub.cons (by with_reducible repeat first | exact ph | apply pt) ?_)); have fM := HM.out.fa; go_wp2_with fail; all_goals clear fM
 go_loopw [5] (fun i wr => ∃ k : Nat, k ≤ n ∧ i = .int .i64 k ∧ Hid (Mem NoB W wr [clR cb (fCl (min 64 k))])) (fun i _ => n - (intOf i).toNat)
 case atStart => exact ⟨0, Nat.zero_le _, rfl, HM⟩
 case round =>
  clear HM; obtain ⟨k, hk, rfl, HM⟩ := hrel; by_cases hlt : k < n
  · have g1 : (k : Int) < (n : Int) := by omega
    by_cases h64 : k < 64
    · rw [show min 64 k = k by omega] at HM
      have g64 : (k : Int) < 64 := by omega
      have fM := HM.out.fa; go_wp2_with fail; all_goals clear fM
      obtain ⟨C, hC, hCI, hS⟩ := (HM.out.pick (r := clR cb (fCl k)) pk).stepIn; refine (csay_any wr cb (fCl k) exL (by show 0 ≤ (k : Int) ∧ (k : Int) ≤ 2147483647; omega) (by rw [fcl_len]; omega) (by decide) hC (tabX_ok.step HX.out hCI.1 hCI.2)).mono ?_; rintro e wb2 ⟨v1, rfl, hU⟩; rw [fcl_say k h64] at hU ⊢; dsimp only at hU ⊢; replace HM := Hd (hS _ _ hU); clear hU hS hC hCI; clear C; replace HM := Hd (show Mem NoB W wb2 [bytR v1 (rawsX [sayS (fEn k)]), clR cb (fCl (k + 1))] from HM.out.unlist); have fM := HM.out.fa; go_wp2_with fail; all_goals clear fM
      refine cret (knum_any _ _) ?_; have fM := HM.out.fa; go_wp2_with fail; all_goals clear fM
      obtain ⟨D1, hD1⟩ := HM.out.get (r := bytR v1 (rawsX [sayS (fEn k)])) pk; have hsd : sdB (sayS (fEn k)) = true := sd_say _ (by show 1 ≤ (k : Int) + 1 ∧ (k : Int) + 1 ≤ 2147483647; omega) chkx; refine (ksaid_any wb2 (tabs_mem HX.out HM.out) v1 _ (bytR.bytes hD1) (bytR.lt hD1) (klen _)).mono ?_; rintro e wg ⟨rfl, hE⟩; replace HM := Hd (HM.out.ext hE); rw [said_one hsd, show (sayS (fEn k)).v = .agg #[.int .i64 4, .int .i64 0, .int .i64 ((k : Int) + 1), .int .i64 0, .bool false, .string (bs exL), .string ⟨#[]⟩, .int .i64 0, .int .i64 0, .int .i64 0, .string ⟨#[]⟩] from rfl]; clear hE hD1 hsd; clear D1; have hfl := fun W => field_num ((k : Int) + 1) (bs exL) W
      have fM := HM.out.fa; go_wp2_with fail; all_goals clear fM
      go_roundw
      case rel => exact ⟨k + 1, by omega, by go_num, Hd (by rw [show min 64 (k + 1) = k + 1 by omega]; exact Mem.sub HM.out (by repeat first | exact Sub.nil | refine Sub.cons (by with_reducible repeat first | exact ph | apply pt) ?_))⟩
      case measure => simp [intOf]; omega
    · rw [show min 64 k = 64 by omega] at HM
      have g64 : ¬ (k : Int) < 64 := by omega
      have g65 : (64 : Int) ≤ (k : Int) := by omega
      have g66 : (k : Int) ≤ 70 := by omega
      have fM := HM.out.fa; go_wp2_with fail; all_goals clear fM
      obtain ⟨C, hC, hCI, hS⟩ := (HM.out.pick (r := clR cb (fCl 64)) pk).stepIn; refine (csay_any wr cb (fCl 64) exL (by show 0 ≤ ((64 : Nat) : Int) ∧ ((64 : Nat) : Int) ≤ 2147483647; omega) (by rw [fcl_len]; omega) (by decide) hC (tabX_ok.step HX.out hCI.1 hCI.2)).mono ?_; rintro e wb2 ⟨v1, rfl, hU⟩; rw [fcl_full] at hU ⊢; dsimp only at hU ⊢; replace HM := Hd (hS _ _ hU); clear hU hS hC hCI; clear C; have hm : Mem NoB W wb2 [bytR v1 [], clR cb (fCl 64)] := HM.out.unlist; obtain ⟨a1, c1, rfl⟩ := hm.fact fun A h => bytR.len h
      replace HM := Hd hm; clear hm; have fM := HM.out.fa; go_wp2_with fail; all_goals clear fM
      refine cret (knum_any _ _) ?_; have fM := HM.out.fa; go_wp2_with fail; all_goals clear fM
      go_roundw
      case rel => exact ⟨k + 1, by omega, by go_num, Hd (by rw [show min 64 (k + 1) = 64 by omega]; exact Mem.sub HM.out (by repeat first | exact Sub.nil | refine Sub.cons (by with_reducible repeat first | exact ph | apply pt) ?_))⟩
      case measure => simp [intOf]; omega
  · obtain rfl : k = n := by omega
    have fM := HM.out.fa; go_wp2_with fail; all_goals clear fM
    refine cret (knum_any _ _) ?_; have fM := HM.out.fa; go_wp2_with fail; all_goals clear fM
    obtain ⟨q, hq⟩ : ∃ q, min 64 k = q := ⟨_, rfl⟩; rw [hq] at HM; have hq2 : (q : Int) = min 64 (k : Int) := by omega
    obtain ⟨C, hC, hCI, hS⟩ := (HM.out.pick (r := clR cb (fCl q)) pk).stepIn; refine (cstate_any wr cb (fCl q) hC (by show 0 ≤ 1000000; omega) (by rw [fcl_len]; omega)).mono ?_; rintro e wb2 ⟨v1, v2, v3, v4, rfl, hU⟩; replace HM := Hd (hS _ _ hU); clear hU hS hC hCI; clear C; have hm : Mem NoB W wb2 [rowR tenE v1 (fCl q).m.lines, rowR tenE v2 (fCl q).waits, rowR intE v3 (placesL 0 (fCl q).ty.list), rowR intE v4 (placesL 0 (fCl q).he.list), clR cb (fCl q)] := HM.out.unlist; obtain ⟨a2, c2, rfl⟩ := (hm.pick (r := rowR tenE v2 (fCl q).waits) pk).fact fun A h => row_len h
    rw [fcl_len] at hm ⊢; replace HM := Hd hm; clear hm; have hfl := fun W => field_waits (fCl q).member (fCl q).m.next (fCl q).made (fCl q).why v1 (.slice a2 q c2) v3 v4 (fCl q).on W
    have fM := HM.out.fa; go_wp2_with fail; all_goals clear fM
    clear hfl; refine (kworks_any wb2 (tabs_mem HX.out HM.out)).mono ?_; rintro e wz ⟨rfl, hE⟩; replace HM := Hd (HM.out.ext hE); clear hE; go_wp2_with fail; go_ret; exact ⟨rfl, HM.out.extTo⟩
end
end Go.Proofs.YtoadjbgpfihoiaaGreatDoor
