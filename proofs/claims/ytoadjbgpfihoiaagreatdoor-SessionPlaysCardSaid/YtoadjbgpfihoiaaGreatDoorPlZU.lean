/- Texts SAct3, SAct4, SLong, SFew, SOpen, SOpenB, one behind the other. Conditions: as each says. -/
import Derived.Test.YtoadjbgpfihoiaaGreatDoorPlZT
set_option linter.unusedVariables false
set_option linter.unusedSimpArgs false
set_option maxHeartbeats 8000000
set_option maxRecDepth 100000
namespace Go.Proofs.YtoadjbgpfihoiaaGreatDoor
open Go.RowKit
def qSAct30 : List (Nat × Nat) := [(0, 0), (0, 1), (1, 2), (0, 3), (3, 4), (2, 5), (0, 6), (0, 7)]
theorem act_silent {A : Nat → Prop} (w : World) (sb : Nat) (s : Ss) (n : Nat) (hok : OkSs s n) (hn : n ≤ 1000000) (v : Value) (l : List (Value × Ss)) (x : Sc) (hsc : OkSc x) (h0 : ¬ x.what = 0) (h1 : ¬ x.what = 1) (h2 : ¬ x.what = 2) (h3 : ¬ x.what = 3) (h4 : ¬ x.what = 4) (h5 : ¬ x.what = 5) (h6 : ¬ x.what = 6) (h : SepL [sesR sb s, docsR ((v, s) :: l)] A w) (hX : TabX A w) :
 Calls Tryz.prog 26 #[.pointer (some ⟨sb, 0, none⟩), v, x.v] w (ActPost A w sb s ((v, s) :: l) x) := by
 have HSA := Hd (show s.act x = s by unfold Ss.act; simp only [h0, h1, h2, h3, h4, h5, h6, if_false]); have hm0 := Mem.ofSep h; obtain ⟨a, c, p, q, rfl⟩ := (hm0.pick (r := docsR ((v, s) :: l)) pk).fact fun A h => doc_form (docs_at h (List.mem_cons_self ..))
 have HM := Hd hm0; have HX := Hd hX; have HOK := Hd hok; have HSC := Hd hsc; have HV := Hd (show x.v = .agg x.cells.toArray from rfl); rw [HV.out]; obtain ⟨now, hnow⟩ : ∃ n, s.heard + nearI x.now = n := ⟨_, rfl⟩; have hnb : -10 ≤ now ∧ now ≤ 4611686018427388004 := by have := hok.heard; have := near_le x.now; unfold farN at *; omega
 have HNB := Hd hnb; have hww : IntKind.i64.wrap (s.heard + nearI x.now) = now := by rw [hnow]; exact IntWalk.i64_in _ (by omega)
 have HNOW := Hd hnow; have HWW := Hd hww; clear h hm0 hX hok hsc hnb hnow hww; go_enter Tryz.func26, Tryz.ntmps26
 have fM := HM.out.fa; go_wp2_with (((with_reducible refine at_box 73 _ rfl ?_); refine boW 73 _ rfl rfl rfl HM.out ?_; intro w9 n9 M); replace HM := Hd M; clear M fM; have fM := HM.out.fa; refine standing ?_); all_goals clear fM
 rename Nat => kw
 refine ⟨?_⟩; have fM := HM.out.fa; go_wp2_with (((with_reducible refine at_box 79 _ rfl ?_); refine boW 79 _ rfl rfl rfl HM.out ?_; intro w9 n9 M); replace HM := Hd M; clear M fM; have fM := HM.out.fa; refine standing ?_); all_goals clear fM
 rename Nat => kx
 refine ⟨?_⟩; have fM := HM.out.fa; go_wp2_with (((with_reducible refine at_alloc 73 rfl ?_); refine alW 73 rfl rfl (zeroDS _) HM.out ?_; intro w9 n9 M); replace HM := Hd M; clear M fM; have fM := HM.out.fa; refine standing ?_); all_goals clear fM
 rename Nat => kr
 refine ⟨?_⟩; have fM := HM.out.fa; go_wp2_with fail; all_goals clear fM
 refine nxt HM fun w1 M => ?_
 replace HM := M; clear M; have fM := HM.out.fa; have hw1 := HWW.out; have hE0 : Keeps NoB w1 w1.drew := (Keeps.refl _ _).drew; refine rgE qSAct30 [2] [5] [] ?_; simp only [qSAct30, planL, nL]; iterate 5 (first | (refine pR (by rfl) (fun W => by go_simp <;> with_reducible rfl) ?_; simp only [nP]) | (refine pX (by rfl) (by go_simp <;> with_reducible rfl) ?_; simp only [nP]) | (refine pL (by rfl) (fun W => by go_simp <;> with_reducible rfl) ?_; simp only [nP]))
 refine plan_does rfl (fun K hK => ?_); go_wp2_with fail; refine (near_any _ _).mono ?_; rintro e w2 ⟨rfl, rfl⟩; have hE2 := hE0; refine hK _ _ ⟨ClsE.of (by assumption), ?_⟩; clear hK K; try simp only [nP]
 refine pR rfl (fun W => by go_simp <;> with_reducible rfl) ?_; simp only [nP]; refine pA _ rfl rfl ?_; simp only [nP, nE]; refine plan_nil ?_; simp only [tailL, List.filterMap_nil]; go_wp2_with fail; clear fM; clear hw1 hE0; have hnow : I64 now := by have := HNB.out; constructor <;> omega
 have HI := Hd hnow; clear hnow; refine nxt HM fun w4 M => ?_
 replace HM := M; clear M; obtain ⟨As, hAs⟩ := HM.out.get (r := sesR sb s) pk; obtain ⟨Ad, hAd⟩ := HM.out.get (r := docsR ((.agg (docC a c p q s).toArray, s) :: l)) pk; obtain ⟨_, hBk⟩ := HM.out.get (r := cellsR kw 73 (docC a c p q s)) pk; have hne := Mem.ne (b := kw) (a := kr) HM.out (by with_reducible repeat first | exact ph | apply pt) (u := 73) (ds := docC a c p q s) (by with_reducible repeat first | exact ph | apply pt); have HNO := Hd (show ¬ (kw = kr) from hne); have HBO := Hd hBk.2; clear hBk hne; have fM := HM.out.fa; have hE0 : Keeps (fun k => k = kr) w4 w4.drew := (Keeps.refl _ _).drew; refine rgK (fun k => k = kr) [(1, 0), (0, 1), (0, 2), (1, 4), (0, 5), (2, 3), (2, 6), (0, 7)] [0, 4] [3, 6, 8, 9] [8, 9] ?_; simp only [planL, nL]; refine pK (v := .agg (docC a c p q s).toArray) rfl (fun y => elB 73 _ rfl rfl (HBO.out.keeps y.h HNO.out) Tryz.underlying73 rfl infoDS) ?_; simp only [nP]; iterate 2 (refine pM _ rfl rfl ?_; simp only [nP, nE])
 refine pK (v := .agg (docC a c p q s).toArray) rfl (fun y => elB 73 _ rfl rfl (HBO.out.keeps y.h HNO.out) Tryz.underlying73 rfl infoDS) ?_; simp only [nP]; refine pM _ rfl rfl ?_; simp only [nP, nE]; refine plan_does rfl (fun K hK => ?_); go_wp2_with fail; skip
 refine (silent_any w4.drew sb s now (Res.keeps _ hAs (Ext.drew0 w4) (fun _ _ => noB _)) HOK.out.heard.1 HI.out).mono ?_; rintro e w5 ⟨rfl, hU⟩; have hE5 := hE0.trans (hU.mono fun k _ h => absurd h (noB k)); replace HM := Hd ((HM.out.drew).ext hU); refine hK _ _ ⟨ClsK.of (by assumption), ?_⟩; clear hK K; try simp only [nP]
 refine plan_does rfl (fun K hK => ?_); go_wp2_with fail; skip
 refine (dsilent_any w5 _ s now (docs_at (Res.keeps _ hAd ((Ext.drew0 w4).trans hU) (fun _ _ => noB _)) (List.mem_cons_self ..)) HOK.out.heard.1 HI.out).mono ?_; rintro e w6 ⟨rfl, hU6⟩; have hE6 := hE5.trans (hU6.mono fun k _ h => absurd h (noB k)); replace HM := Hd (HM.out.ext hU6); clear hU hU6; refine hK _ _ ⟨ClsK.of (by assumption), ?_⟩; clear hK K; try simp only [nP]
 refine pR rfl (fun W => by go_simp <;> with_reducible rfl) ?_; simp only [nP]; refine plan_nil ?_; simp only [tailL, List.filterMap_cons, List.filterMap_nil, nL]; change wpList _ _ _ (_ :: _ :: []) _ _; clear fM; have fM := HM.out.fa; go_wp2_with (((with_reducible refine at_store 73 _ _ rfl ?_); refine stW 73 _ _ rfl rfl rfl rfl HM.out infoDS ?_; intro w9 M); replace HM := Hd M; clear M fM; have fM := HM.out.fa); all_goals clear fM
 refine nxt HM fun wz M => ?_
 replace HM := M; clear M; refine bodyPost_ret (results_ct rfl _ rfl (lvW 73 HM.out Tryz.underlying73 rfl infoDS)) rfl ?_; unfold ActPost; rw [HSA.out]; have hm := docs_sub (HM.out.pick (r := docsR ((.agg (docC a c p q s).toArray, s) :: l)) pk) (m := (.agg (docC a c p q s).toArray, s) :: (.agg (docC a c p q s).toArray, s) :: l) (fun p hp => (List.mem_cons.1 hp).elim (fun h => h ▸ List.mem_cons_self ..) id); exact ⟨_, by simp, (Mem.list' (L1 := [sesR sb s, docsR ((.agg (docC a c p q s).toArray, s) :: (.agg (docC a c p q s).toArray, s) :: l)]) (L := []) (Mem.sub hm (by repeat first | exact Sub.nil | refine Sub.cons (by with_reducible repeat first | exact ph | apply pt) ?_))).upd⟩
theorem ShortSc.okS {x : Sc} (h : ShortSc x) (ho : OkSc x) : OkS x.said := ⟨ho.sek, Nat.le_trans h.s1 (by decide), Nat.le_trans h.s2 (by decide), Nat.le_trans h.s3 (by decide)⟩
theorem act_beside {A : Nat → Prop} (w : World) (sb : Nat) (s : Ss) (n : Nat) (hok : OkSs s n) (hn : n ≤ 1000000) (v : Value) (l : List (Value × Ss)) (x : Sc) (hsc : OkSc x) (hsh : ShortSc x) (hx : x.what = 2) (h : SepL [sesR sb s, docsR ((v, s) :: l)] A w) (hX : TabX A w) :
 Calls Tryz.prog 26 #[.pointer (some ⟨sb, 0, none⟩), v, x.v] w (ActPost A w sb s ((v, s) :: l) x) := by
 have HSA := Hd (show s.act x = (s.beside x.said).1 by unfold Ss.act; rw [hx]; rfl); have HSH := Hd hsh; have hm0 := Mem.ofSep h; obtain ⟨a, c, p, q, rfl⟩ := (hm0.pick (r := docsR ((v, s) :: l)) pk).fact fun A h => doc_form (docs_at h (List.mem_cons_self ..))
 have HM := Hd hm0; have HX := Hd hX; have HOK := Hd hok; have HSC := Hd hsc; have HV := Hd (show x.v = .agg x.cells.toArray from rfl); rw [HV.out]; obtain ⟨now, hnow⟩ : ∃ n, s.heard + nearI x.now = n := ⟨_, rfl⟩; have hnb : -10 ≤ now ∧ now ≤ 4611686018427388004 := by have := hok.heard; have := near_le x.now; unfold farN at *; omega
 have HNB := Hd hnb; have hww : IntKind.i64.wrap (s.heard + nearI x.now) = now := by rw [hnow]; exact IntWalk.i64_in _ (by omega)
 have HNOW := Hd hnow; have HWW := Hd hww; clear h hm0 hX hok hsc hnb hnow hww; go_enter Tryz.func26, Tryz.ntmps26
 have fM := HM.out.fa; go_wp2_with (((with_reducible refine at_box 73 _ rfl ?_); refine boW 73 _ rfl rfl rfl HM.out ?_; intro w9 n9 M); replace HM := Hd M; clear M fM; have fM := HM.out.fa; refine standing ?_); all_goals clear fM
 rename Nat => kw
 refine ⟨?_⟩; have fM := HM.out.fa; go_wp2_with (((with_reducible refine at_box 79 _ rfl ?_); refine boW 79 _ rfl rfl rfl HM.out ?_; intro w9 n9 M); replace HM := Hd M; clear M fM; have fM := HM.out.fa; refine standing ?_); all_goals clear fM
 rename Nat => kx
 refine ⟨?_⟩; have fM := HM.out.fa; go_wp2_with (((with_reducible refine at_alloc 73 rfl ?_); refine alW 73 rfl rfl (zeroDS _) HM.out ?_; intro w9 n9 M); replace HM := Hd M; clear M fM; have fM := HM.out.fa; refine standing ?_); all_goals clear fM
 rename Nat => kr
 refine ⟨?_⟩; have fM := HM.out.fa; go_wp2_with fail; all_goals clear fM
 refine nxt HM fun w1 M => ?_
 replace HM := M; clear M; have fM := HM.out.fa; have hw1 := HWW.out; have hE0 : Keeps NoB w1 w1.drew := (Keeps.refl _ _).drew; refine rgE qSAct30 [2] [5] [] ?_; simp only [qSAct30, planL, nL]; iterate 5 (first | (refine pR (by rfl) (fun W => by go_simp <;> with_reducible rfl) ?_; simp only [nP]) | (refine pX (by rfl) (by go_simp <;> with_reducible rfl) ?_; simp only [nP]) | (refine pL (by rfl) (fun W => by go_simp <;> with_reducible rfl) ?_; simp only [nP]))
 refine plan_does rfl (fun K hK => ?_); go_wp2_with fail; refine (near_any _ _).mono ?_; rintro e w2 ⟨rfl, rfl⟩; have hE2 := hE0; refine hK _ _ ⟨ClsE.of (by assumption), ?_⟩; clear hK K; try simp only [nP]
 refine pR rfl (fun W => by go_simp <;> with_reducible rfl) ?_; simp only [nP]; refine pA _ rfl rfl ?_; simp only [nP, nE]; refine plan_nil ?_; simp only [tailL, List.filterMap_nil]; go_wp2_with ((with_reducible refine at_load 73 _ rfl ?_); refine ldW 73 _ rfl rfl rfl HM.out Tryz.underlying73 rfl infoDS ?_); clear fM; clear hw1 hE0; refine nxt HM fun w2 M => ?_
 replace HM := M; clear M; obtain ⟨C, hC, hS⟩ := (HM.out.pick (r := docsR ((.agg (docC a c p q s).toArray, s) :: l)) pk).step; refine (dbeside_any w2 w2 (tabX_ok.step (A' := A) HX.out HM.out.keepsTo (fun _ h => .inl h)).1 (Keeps.refl _ _) _ s n HOK.out hn x.said ⟨HSH.out.s1, HSH.out.s2, HSH.out.s3⟩ (docs_at hC (List.mem_cons_self ..)) hC.2).mono ?_; rintro e w3 ⟨v1, rfl, hp⟩; obtain ⟨a1, c1, p1, q1, rfl⟩ := doc_form hp.1; replace HM := Hd (hS _ _ (docs_more hC hp)); clear hC hS hp; clear C; have fM := HM.out.fa; go_wp2_with (((with_reducible refine at_alloc 73 rfl ?_); refine alW 73 rfl rfl (zeroDS _) HM.out ?_; intro w9 n9 M); replace HM := Hd M; clear M fM; have fM := HM.out.fa; refine standing ?_); all_goals clear fM
 rename Nat => ko
 refine ⟨?_⟩; have fM := HM.out.fa; go_wp2_with (((with_reducible refine at_store 73 _ _ rfl ?_); refine stW 73 _ _ rfl rfl rfl rfl HM.out infoDS ?_; intro w9 M); replace HM := Hd M; clear M fM; have fM := HM.out.fa); all_goals clear fM
 refine nxt HM fun w4 M => ?_
 replace HM := M; clear M; obtain ⟨As, hAs, hin, hSs⟩ := (HM.out.pick (r := sesR sb s) pk).step'; refine (beside_any w4 sb s n HOK.out hn x.said (HSH.out.okS HSC.out) HSC.out.sk hAs (tabX_ok.step HX.out HM.out.keepsTo hin)).mono ?_; rintro e w5 ⟨rfl, hU⟩; replace HM := Hd (hSs _ _ hU); clear hAs hin hSs hU; clear As; have fM := HM.out.fa; go_wp2_with fail; all_goals clear fM
 refine nxt HM fun w6 M => ?_
 replace HM := M; clear M; obtain ⟨_, hBk⟩ := HM.out.get (r := cellsR ko 73 (docC a1 c1 p1 q1 (s.beside x.said).1)) pk; have hne := Mem.ne (b := ko) (a := kr) HM.out (by with_reducible repeat first | exact ph | apply pt) (u := 73) (ds := docC a1 c1 p1 q1 (s.beside x.said).1) (by with_reducible repeat first | exact ph | apply pt); have HNO := Hd (show ¬ (ko = kr) from hne); have HBO := Hd hBk.2; clear hBk hne; have fM := HM.out.fa; have hE0 : Keeps (fun k => k = kr) w6 w6.drew := (Keeps.refl _ _).drew; refine rgK (fun k => k = kr) [(1, 0), (0, 1), (0, 2), (0, 3), (0, 4), (0, 5), (0, 7), (2, 6), (0, 8), (0, 9)] [0] [6, 10, 11] [10, 11] ?_; simp only [planL, nL]; refine pK (v := .agg (docC a1 c1 p1 q1 (s.beside x.said).1).toArray) rfl (fun y => elB 73 _ rfl rfl (HBO.out.keeps y.h HNO.out) Tryz.underlying73 rfl infoDS) ?_; simp only [nP]; iterate 4 (first | (refine pM _ rfl rfl ?_; simp only [nP, nE]) | (refine pR (by rfl) (fun W => by go_simp <;> with_reducible rfl) ?_; simp only [nP]))
 iterate 2 ((refine pM _ rfl rfl ?_; simp only [nP, nE]))
 refine plan_does rfl (fun K hK => ?_); go_wp2_with fail; skip
 refine cret (snum_any _ _) ?_; refine hK _ _ ⟨ClsK.of (by assumption), ?_⟩; clear hK K; try simp only [nP]
 iterate 2 (refine pR rfl (fun W => by go_simp <;> with_reducible rfl) ?_; simp only [nP])
 refine plan_nil ?_; simp only [tailL, List.filterMap_cons, List.filterMap_nil, nL]; change wpList _ _ _ (_ :: _ :: []) _ _; clear fM; have fM := HM.out.fa; go_wp2_with (((with_reducible refine at_store 73 _ _ rfl ?_); refine stW 73 _ _ rfl rfl rfl rfl HM.out infoDS ?_; intro w9 M); replace HM := Hd M; clear M fM; have fM := HM.out.fa); all_goals clear fM
 refine nxt HM fun wz M => ?_
 replace HM := M; clear M; refine bodyPost_ret (results_ct rfl _ rfl (lvW 73 HM.out Tryz.underlying73 rfl infoDS)) rfl ?_; unfold ActPost; rw [HSA.out]; exact ⟨_, by simp, (Mem.list' (L1 := [sesR sb (s.beside x.said).1, docsR ((.agg (docC a1 c1 p1 q1 (s.beside x.said).1).toArray, (s.beside x.said).1) :: (.agg (docC a c p q s).toArray, s) :: l)]) (L := []) (Mem.sub HM.out (by repeat first | exact Sub.nil | refine Sub.cons (by with_reducible repeat first | exact ph | apply pt) ?_))).upd⟩
def docsB (vb : Value) (b : List UInt8) (l : List (Value × Ss)) : Res := anyR (fun F w => ((∀ p ∈ l, DocAt w F p.1 p.2) ∧ ∀ k, F k → k < w.heap.size) ∧ Bytes w F vb b)
 (fun h hk hs => ⟨⟨fun p hp => (h.1.1 p hp).keeps hk hs, fun k hF => Nat.lt_of_lt_of_le (h.1.2 k hF) hk.size⟩, h.2.keeps hk hs⟩) (fun h => h.1.2)
theorem docsB_sub {F : Nat → Prop} {w0 w : World} {L : List Res} {vb : Value} {b : List UInt8} {l : List (Value × Ss)} (h : Mem F w0 w (docsB vb b l :: L)) : Mem F w0 w (docsR l :: L) := h.turn fun A hA => hA.1
theorem docsB_more {A : Nat → Prop} {w w' : World} {l : List (Value × Ss)} {v' vb : Value} {s' : Ss} {b : List UInt8} (h : (docsR l).p A w) (hp : DocPost w A s' v' w') (hb : Bytes w' (fun k => A k ∨ (w.heap.size ≤ k ∧ k < w'.heap.size)) vb b) : Upd A w w' (docsB vb b ((v', s') :: l)) :=
 ⟨fun k => A k ∨ (w.heap.size ≤ k ∧ k < w'.heap.size), ⟨⟨fun p hp' => by
  rcases List.mem_cons.1 hp' with rfl | hp'
  · exact hp.1
  · exact ((h.1 p hp').ext hp.2).mono fun k hk => .inl hk, fun k hk => hk.elim (fun hA => Nat.lt_of_lt_of_le (h.2 k hA) hp.2.size) (·.2)⟩, hb⟩, Ext.keeps hp.2, fun k hk => hk.imp id (·.1)⟩
theorem act_take {A : Nat → Prop} (w : World) (sb : Nat) (s : Ss) (n : Nat) (hok : OkSs s n) (hn : n ≤ 1000000) (v : Value) (l : List (Value × Ss)) (x : Sc) (hsc : OkSc x) (hx : x.what = 3) (h : SepL [sesR sb s, docsR ((v, s) :: l)] A w) (hX : TabX A w) :
 Calls Tryz.prog 26 #[.pointer (some ⟨sb, 0, none⟩), v, x.v] w (ActPost A w sb s ((v, s) :: l) x) := by
 have HSA := Hd (show s.act x = s.take.1 by unfold Ss.act; rw [hx]; rfl); have hm0 := Mem.ofSep h; obtain ⟨a, c, p, q, rfl⟩ := (hm0.pick (r := docsR ((v, s) :: l)) pk).fact fun A h => doc_form (docs_at h (List.mem_cons_self ..))
 have HM := Hd hm0; have HX := Hd hX; have HOK := Hd hok; have HSC := Hd hsc; have HV := Hd (show x.v = .agg x.cells.toArray from rfl); rw [HV.out]; obtain ⟨now, hnow⟩ : ∃ n, s.heard + nearI x.now = n := ⟨_, rfl⟩; have hnb : -10 ≤ now ∧ now ≤ 4611686018427388004 := by have := hok.heard; have := near_le x.now; unfold farN at *; omega
 have HNB := Hd hnb; have hww : IntKind.i64.wrap (s.heard + nearI x.now) = now := by rw [hnow]; exact IntWalk.i64_in _ (by omega)
 have HNOW := Hd hnow; have HWW := Hd hww; clear h hm0 hX hok hsc hnb hnow hww; go_enter Tryz.func26, Tryz.ntmps26
 have fM := HM.out.fa; go_wp2_with (((with_reducible refine at_box 73 _ rfl ?_); refine boW 73 _ rfl rfl rfl HM.out ?_; intro w9 n9 M); replace HM := Hd M; clear M fM; have fM := HM.out.fa; refine standing ?_); all_goals clear fM
 rename Nat => kw
 refine ⟨?_⟩; have fM := HM.out.fa; go_wp2_with (((with_reducible refine at_box 79 _ rfl ?_); refine boW 79 _ rfl rfl rfl HM.out ?_; intro w9 n9 M); replace HM := Hd M; clear M fM; have fM := HM.out.fa; refine standing ?_); all_goals clear fM
 rename Nat => kx
 refine ⟨?_⟩; have fM := HM.out.fa; go_wp2_with (((with_reducible refine at_alloc 73 rfl ?_); refine alW 73 rfl rfl (zeroDS _) HM.out ?_; intro w9 n9 M); replace HM := Hd M; clear M fM; have fM := HM.out.fa; refine standing ?_); all_goals clear fM
 rename Nat => kr
 refine ⟨?_⟩; have fM := HM.out.fa; go_wp2_with fail; all_goals clear fM
 refine nxt HM fun w1 M => ?_
 replace HM := M; clear M; have fM := HM.out.fa; have hw1 := HWW.out; have hE0 : Keeps NoB w1 w1.drew := (Keeps.refl _ _).drew; refine rgE qSAct30 [2] [5] [] ?_; simp only [qSAct30, planL, nL]; iterate 5 (first | (refine pR (by rfl) (fun W => by go_simp <;> with_reducible rfl) ?_; simp only [nP]) | (refine pX (by rfl) (by go_simp <;> with_reducible rfl) ?_; simp only [nP]) | (refine pL (by rfl) (fun W => by go_simp <;> with_reducible rfl) ?_; simp only [nP]))
 refine plan_does rfl (fun K hK => ?_); go_wp2_with fail; refine (near_any _ _).mono ?_; rintro e w2 ⟨rfl, rfl⟩; have hE2 := hE0; refine hK _ _ ⟨ClsE.of (by assumption), ?_⟩; clear hK K; try simp only [nP]
 refine pR rfl (fun W => by go_simp <;> with_reducible rfl) ?_; simp only [nP]; refine pA _ rfl rfl ?_; simp only [nP, nE]; refine plan_nil ?_; simp only [tailL, List.filterMap_nil]; go_wp2_with ((with_reducible refine at_load 73 _ rfl ?_); refine ldW 73 _ rfl rfl rfl HM.out Tryz.underlying73 rfl infoDS ?_); clear fM; clear hw1 hE0; refine nxt HM fun w2 M => ?_
 replace HM := M; clear M; obtain ⟨C, hC, hS⟩ := (HM.out.pick (r := docsR ((.agg (docC a c p q s).toArray, s) :: l)) pk).step; refine (dtake_any w2 _ s n HOK.out (docs_at hC (List.mem_cons_self ..)) hC.2).mono ?_; rintro e w3 ⟨v1, vb, rfl, hp, hvb⟩; obtain ⟨a1, c1, p1, q1, rfl⟩ := doc_form hp.1; obtain ⟨ab, cb, rfl⟩ := hvb.len; replace HM := Hd (hS _ _ (docsB_more hC hp hvb)); clear hC hS hp hvb; clear C; have fM := HM.out.fa; go_wp2_with (((with_reducible refine at_alloc 73 rfl ?_); refine alW 73 rfl rfl (zeroDS _) HM.out ?_; intro w9 n9 M); replace HM := Hd M; clear M fM; have fM := HM.out.fa; refine standing ?_); all_goals clear fM
 rename Nat => ko
 refine ⟨?_⟩; have fM := HM.out.fa; go_wp2_with (((with_reducible refine at_store 73 _ _ rfl ?_); refine stW 73 _ _ rfl rfl rfl rfl HM.out infoDS ?_; intro w9 M); replace HM := Hd M; clear M fM; have fM := HM.out.fa); all_goals clear fM
 refine nxt HM fun w4 M => ?_
 replace HM := M; clear M; obtain ⟨As, Bo, hAs, hBo, hd, hin, hSs⟩ := HM.out.beside (r := sesR sb s) (x := cellsR kr 73 _) (by with_reducible repeat first | exact ph | apply pt) (by with_reducible repeat first | exact ph | apply pt); have hnk : ¬ As kr := hd kr ((hBo.1 kr).2 rfl); have hlt : kr < w4.heap.size := (Array.getElem?_eq_some_iff.1 hBo.2).1; refine (stake_any w4 sb s n HOK.out hAs).mono ?_; rintro e w5 ⟨v2, rfl, hU, hv2⟩; obtain ⟨a2, c2, rfl⟩ := hv2.len; replace HM := Hd (hSs _ _ hU); have HB2 := Hd (show Bytes w5 (fun k => ¬ k = kr) _ _ from hv2.mono fun k hk => fun e => hk.1.elim (e ▸ hnk) (by omega)); clear hAs hin hSs hU hBo hd hnk hlt hv2; clear As Bo; have fM := HM.out.fa; go_wp2_with fail; all_goals clear fM
 obtain ⟨_, hBk⟩ := HM.out.get (r := cellsR ko 73 (docC a1 c1 p1 q1 s.take.1)) pk; have hne := Mem.ne (b := ko) (a := kr) HM.out (by with_reducible repeat first | exact ph | apply pt) (u := 73) (ds := docC a1 c1 p1 q1 s.take.1) (by with_reducible repeat first | exact ph | apply pt); have HNO := Hd (show ¬ (ko = kr) from hne); have HBO := Hd hBk.2; obtain ⟨Ad, Bo, hAd, hBo, hd, -, -⟩ := HM.out.beside (r := docsB (.slice ab (s.take.2.getD []).length cb) (s.take.2.getD []) ((.agg (docC a1 c1 p1 q1 s.take.1).toArray, s.take.1) :: (.agg (docC a c p q s).toArray, s) :: l)) (x := cellsR kr 73 _) (by with_reducible repeat first | exact ph | apply pt) (by with_reducible repeat first | exact ph | apply pt); have HB1 := Hd (show Bytes w5 (fun k => ¬ k = kr) _ _ from hAd.2.mono fun k hk => fun e => hd kr ((hBo.1 kr).2 rfl) (e ▸ hk)); clear hAd hBo hd hBk hne; clear Ad Bo; have fM := HM.out.fa; have hcv1 : ∀ y : KeepsW (fun k => k = kr) w5, (convert 27 9 (.slice ab (s.take.2.getD []).length cb)).run Tryz.prog y.w = .ok (.string (bs (s.take.2.getD []))) y.w := fun y => (HB1.out.keeps y.h fun _ h => h).str
 have hcv2 : ∀ y : KeepsW (fun k => k = kr) w5, (convert 27 9 (.slice a2 (s.take.2.getD []).length c2)).run Tryz.prog y.w = .ok (.string (bs (s.take.2.getD []))) y.w := fun y => (HB2.out.keeps y.h fun _ h => h).str
 have hE0 : Keeps (fun k => k = kr) w5 w5.drew := (Keeps.refl _ _).drew; refine rgK (fun k => k = kr) [(3, 0), (0, 1), (0, 2), (0, 3), (0, 4), (0, 5), (1, 6), (0, 7), (1, 8), (0, 9), (0, 10), (2, 11), (0, 12)] [6, 8] [11] [] ?_; simp only [planL, nL]; refine pX (v := .agg (docC a1 c1 p1 q1 s.take.1).toArray) rfl (elB 73 _ rfl rfl (HBO.out.keeps hE0 HNO.out) Tryz.underlying73 rfl infoDS) ?_; simp only [nP]; iterate 10 (first | (refine pM _ rfl rfl ?_; simp only [nP, nE]) | (refine pR (by rfl) (fun W => by go_simp <;> with_reducible rfl) ?_; simp only [nP]) | (refine pK (by rfl) (fun W => by go_simp <;> with_reducible rfl) ?_; simp only [nP]))
 refine plan_does rfl (fun K hK => ?_); refine osW 73 _ _ rfl rfl rfl HM.out infoDS (wr := w5) (S := (fun k => k = kr)) (by repeat (first | assumption | exact Keeps.refl _ _ | with_reducible apply Keeps.drew | with_reducible apply Keeps.alloc)) (by first | rfl | exact .inl rfl | exact .inr rfl | exact Mem.out2 HM.out) fun w9 M hE9 => ?_
 replace HM := Hd M; clear M; refine hK _ _ ⟨ClsK.of hE9, ?_⟩; clear hK K; try simp only [nP]
 refine pA _ rfl rfl ?_; simp only [nP, nE]; refine plan_nil ?_; simp only [tailL, List.filterMap_nil]; clear hcv1 hcv2 hE0; clear fM; have fM := HM.out.fa; go_wp2_with fail; all_goals clear fM
 refine nxt HM fun wz M => ?_
 replace HM := M; clear M; refine bodyPost_ret (results_ct rfl _ rfl (lvW 73 HM.out Tryz.underlying73 rfl infoDS)) rfl ?_; unfold ActPost; rw [HSA.out]; have hm := docsB_sub (HM.out.pick (r := docsB (.slice ab (s.take.2.getD []).length cb) (s.take.2.getD []) ((.agg (docC a1 c1 p1 q1 s.take.1).toArray, s.take.1) :: (.agg (docC a c p q s).toArray, s) :: l)) pk); exact ⟨_, by simp, (Mem.list' (L1 := [sesR sb s.take.1, docsR ((.agg (docC a1 c1 p1 q1 s.take.1).toArray, s.take.1) :: (.agg (docC a c p q s).toArray, s) :: l)]) (L := []) (Mem.sub hm (by repeat first | exact Sub.nil | refine Sub.cons (by with_reducible repeat first | exact ph | apply pt) ?_))).upd⟩
theorem act_offer {A : Nat → Prop} (w : World) (sb : Nat) (s : Ss) (n : Nat) (hok : OkSs s n) (hn : n ≤ 1000000) (v : Value) (l : List (Value × Ss)) (x : Sc) (hsc : OkSc x) (hsh : ShortSc x) (hx : x.what = 0) (h : SepL [sesR sb s, docsR ((v, s) :: l)] A w) (hX : TabX A w) :
 Calls Tryz.prog 26 #[.pointer (some ⟨sb, 0, none⟩), v, x.v] w (ActPost A w sb s ((v, s) :: l) x) := by
 obtain ⟨i, hi⟩ : ∃ n, s.next + nearI x.index = n := ⟨_, rfl⟩
 have hiw : IntKind.i64.wrap (s.next + nearI x.index) = i := by
  rw [hi]; have := near_le x.index; have := hok.next0; have := hok.next1; have := hok.ack0; have := hok.sent0; exact IntWalk.i64_in _ (by omega)
 have HIW := Hd hiw; have HSA := Hd (show s.act x = (s.offer i x.e x.token).1 by rw [← hi]; unfold Ss.act; rw [hx]; rfl); have HSH := Hd hsh; clear hiw hi; have hm0 := Mem.ofSep h; obtain ⟨a, c, p, q, rfl⟩ := (hm0.pick (r := docsR ((v, s) :: l)) pk).fact fun A h => doc_form (docs_at h (List.mem_cons_self ..))
 have HM := Hd hm0; have HX := Hd hX; have HOK := Hd hok; have HSC := Hd hsc; have HV := Hd (show x.v = .agg x.cells.toArray from rfl); rw [HV.out]; obtain ⟨now, hnow⟩ : ∃ n, s.heard + nearI x.now = n := ⟨_, rfl⟩; have hnb : -10 ≤ now ∧ now ≤ 4611686018427388004 := by have := hok.heard; have := near_le x.now; unfold farN at *; omega
 have HNB := Hd hnb; have hww : IntKind.i64.wrap (s.heard + nearI x.now) = now := by rw [hnow]; exact IntWalk.i64_in _ (by omega)
 have HNOW := Hd hnow; have HWW := Hd hww; clear h hm0 hX hok hsc hnb hnow hww; go_enter Tryz.func26, Tryz.ntmps26
 have fM := HM.out.fa; go_wp2_with (((with_reducible refine at_box 73 _ rfl ?_); refine boW 73 _ rfl rfl rfl HM.out ?_; intro w9 n9 M); replace HM := Hd M; clear M fM; have fM := HM.out.fa; refine standing ?_); all_goals clear fM
 rename Nat => kw
 refine ⟨?_⟩; have fM := HM.out.fa; go_wp2_with (((with_reducible refine at_box 79 _ rfl ?_); refine boW 79 _ rfl rfl rfl HM.out ?_; intro w9 n9 M); replace HM := Hd M; clear M fM; have fM := HM.out.fa; refine standing ?_); all_goals clear fM
 rename Nat => kx
 refine ⟨?_⟩; have fM := HM.out.fa; go_wp2_with (((with_reducible refine at_alloc 73 rfl ?_); refine alW 73 rfl rfl (zeroDS _) HM.out ?_; intro w9 n9 M); replace HM := Hd M; clear M fM; have fM := HM.out.fa; refine standing ?_); all_goals clear fM
 rename Nat => kr
 refine ⟨?_⟩; have fM := HM.out.fa; go_wp2_with fail; all_goals clear fM
 refine nxt HM fun w1 M => ?_
 replace HM := M; clear M; have fM := HM.out.fa; have hw1 := HWW.out; have hE0 : Keeps NoB w1 w1.drew := (Keeps.refl _ _).drew; refine rgE qSAct30 [2] [5] [] ?_; simp only [qSAct30, planL, nL]; iterate 5 (first | (refine pR (by rfl) (fun W => by go_simp <;> with_reducible rfl) ?_; simp only [nP]) | (refine pX (by rfl) (by go_simp <;> with_reducible rfl) ?_; simp only [nP]) | (refine pL (by rfl) (fun W => by go_simp <;> with_reducible rfl) ?_; simp only [nP]))
 refine plan_does rfl (fun K hK => ?_); go_wp2_with fail; refine (near_any _ _).mono ?_; rintro e w2 ⟨rfl, rfl⟩; have hE2 := hE0; refine hK _ _ ⟨ClsE.of (by assumption), ?_⟩; clear hK K; try simp only [nP]
 refine pR rfl (fun W => by go_simp <;> with_reducible rfl) ?_; simp only [nP]; refine pA _ rfl rfl ?_; simp only [nP, nE]; refine plan_nil ?_; simp only [tailL, List.filterMap_nil]; go_wp2_with fail; clear fM; clear hw1 hE0; refine nxt HM fun w8 M => ?_
 replace HM := M; clear M; have fM := HM.out.fa; have hi1 := HIW.out; have hE0 : Keeps NoB w8 w8.drew := (Keeps.refl _ _).drew; refine rgE qSAct30 [2] [5] [] ?_; simp only [qSAct30, planL, nL]; iterate 5 (first | (refine pR (by rfl) (fun W => by go_simp <;> with_reducible rfl) ?_; simp only [nP]) | (refine pX (by rfl) (by go_simp <;> with_reducible rfl) ?_; simp only [nP]) | (refine pL (by rfl) (fun W => by go_simp <;> with_reducible rfl) ?_; simp only [nP]))
 refine plan_does rfl (fun K hK => ?_); go_wp2_with fail; refine (near_any _ _).mono ?_; rintro e w2 ⟨rfl, rfl⟩; have hE2 := hE0; refine hK _ _ ⟨ClsE.of (by assumption), ?_⟩; clear hK K; try simp only [nP]
 refine pR rfl (fun W => by go_simp <;> with_reducible rfl) ?_; simp only [nP]; refine pA _ rfl rfl ?_; simp only [nP, nE]; refine plan_nil ?_; simp only [tailL, List.filterMap_nil]; go_wp2_with ((with_reducible refine at_load 73 _ rfl ?_); refine ldW 73 _ rfl rfl rfl HM.out Tryz.underlying73 rfl infoDS ?_); clear fM; clear hi1 hE0; refine nxt HM fun w2 M => ?_
 replace HM := M; clear M; obtain ⟨C, hC, hS⟩ := (HM.out.pick (r := docsR ((.agg (docC a c p q s).toArray, s) :: l)) pk).step; refine (doffer_any w2 w2 (tabX_ok.step (A' := A) HX.out HM.out.keepsTo (fun _ h => .inl h)).1 (Keeps.refl _ _) _ s n HOK.out hn i x.e x.token HSH.out.e HSH.out.t (docs_at hC (List.mem_cons_self ..)) hC.2).mono ?_; rintro e w3 ⟨v1, rfl, hp⟩; obtain ⟨a1, c1, p1, q1, rfl⟩ := doc_form hp.1; replace HM := Hd (hS _ _ (docs_more hC hp)); clear hC hS hp; clear C; have fM := HM.out.fa; go_wp2_with (((with_reducible refine at_alloc 73 rfl ?_); refine alW 73 rfl rfl (zeroDS _) HM.out ?_; intro w9 n9 M); replace HM := Hd M; clear M fM; have fM := HM.out.fa; refine standing ?_); all_goals clear fM
 rename Nat => ko
 refine ⟨?_⟩; have fM := HM.out.fa; go_wp2_with (((with_reducible refine at_store 73 _ _ rfl ?_); refine stW 73 _ _ rfl rfl rfl rfl HM.out infoDS ?_; intro w9 M); replace HM := Hd M; clear M fM; have fM := HM.out.fa); all_goals clear fM
 refine nxt HM fun w4 M => ?_
 replace HM := M; clear M; obtain ⟨As, Bo, hAs, hBo, hd, hin, hSs⟩ := HM.out.beside (r := sesR sb s) (x := cellsR ko 73 (docC a1 c1 p1 q1 (s.offer i x.e x.token).1)) pk pk; obtain ⟨_, hBk⟩ := HM.out.get (r := cellsR ko 73 (docC a1 c1 p1 q1 (s.offer i x.e x.token).1)) pk; have hne := Mem.ne (b := ko) (a := kr) HM.out (by with_reducible repeat first | exact ph | apply pt) (u := 73) (ds := docC a1 c1 p1 q1 (s.offer i x.e x.token).1) (by with_reducible repeat first | exact ph | apply pt); have HNO := Hd (show ¬ (As ko ∨ ko = kr) from fun h => h.elim (hd ko ((hBo.1 ko).2 rfl)) hne); have HBO := Hd hBk.2; have HIN := Hd hin.2; clear hBo hd hin hBk hne; clear Bo; have fM := HM.out.fa; have hE0 : Keeps (fun k => As k ∨ k = kr) w4 w4.drew := (Keeps.refl _ _).drew; refine rgK (fun k => As k ∨ k = kr) [(1, 0), (0, 1), (0, 2), (0, 3), (3, 4), (0, 5), (3, 6), (0, 9), (2, 7), (2, 8), (0, 10)] [0] [7, 8, 11, 12] [11, 12] ?_; simp only [planL, nL]; refine pK (v := .agg (docC a1 c1 p1 q1 (s.offer i x.e x.token).1).toArray) rfl (fun y => elB 73 _ rfl rfl (HBO.out.keeps y.h HNO.out) Tryz.underlying73 rfl infoDS) ?_; simp only [nP]; iterate 7 (first | (refine pM _ rfl rfl ?_; simp only [nP, nE]) | (refine pR (by rfl) (fun W => by go_simp <;> with_reducible rfl) ?_; simp only [nP]) | (refine pX (by rfl) (by go_simp <;> with_reducible rfl) ?_; simp only [nP]))
 refine plan_does rfl (fun K hK => ?_); go_wp2_with fail; skip
 refine (offer_any w4.drew sb s n HOK.out hn i x.e x.token HSC.out.ek (Nat.le_trans HSH.out.e (by decide)) (Nat.le_trans HSH.out.t (by decide)) (Res.keeps _ hAs (Ext.drew0 w4) (fun _ _ => noB _)) (tabX_ok.step HX.out (HM.out.keepsTo.drew) (fun k hk => HIN.out k hk))).mono ?_; rintro e w5 ⟨rfl, hU⟩; have hE5 := hE0.trans (hU.keepsTo.mono (T := fun k => As k ∨ k = kr) fun k _ h => .inl h); replace HM := Hd (hSs _ _ (hU.pre (Ext.drew0 w4))); clear hU; refine hK _ _ ⟨ClsK.of (by assumption), ?_⟩; clear hK K; try simp only [nP]
 refine plan_does rfl (fun K hK => ?_); go_wp2_with fail; skip
 refine cret (snum_any _ _) ?_; refine hK _ _ ⟨ClsK.of (by assumption), ?_⟩; clear hK K; try simp only [nP]
 refine pR rfl (fun W => by go_simp <;> with_reducible rfl) ?_; simp only [nP]; refine plan_nil ?_; simp only [tailL, List.filterMap_cons, List.filterMap_nil, nL]; change wpList _ _ _ (_ :: _ :: []) _ _; clear fM; have fM := HM.out.fa; go_wp2_with (((with_reducible refine at_store 73 _ _ rfl ?_); refine stW 73 _ _ rfl rfl rfl rfl HM.out infoDS ?_; intro w9 M); replace HM := Hd M; clear M fM; have fM := HM.out.fa); all_goals clear fM
 refine nxt HM fun wz M => ?_
 replace HM := M; clear M; refine bodyPost_ret (results_ct rfl _ rfl (lvW 73 HM.out Tryz.underlying73 rfl infoDS)) rfl ?_; unfold ActPost; rw [HSA.out]; exact ⟨_, by simp, (Mem.list' (L1 := [sesR sb (s.offer i x.e x.token).1, docsR ((.agg (docC a1 c1 p1 q1 (s.offer i x.e x.token).1).toArray, (s.offer i x.e x.token).1) :: (.agg (docC a c p q s).toArray, s) :: l)]) (L := []) (Mem.sub HM.out (by repeat first | exact Sub.nil | refine Sub.cons (by with_reducible repeat first | exact ph | apply pt) ?_))).upd⟩
theorem act_any {A : Nat → Prop} (w : World) (sb : Nat) (s : Ss) (n : Nat) (hok : OkSs s n) (hn : n ≤ 1000000) (v : Value) (l : List (Value × Ss)) (x : Sc) (hsc : OkSc x) (hsh : ShortSc x) (h : SepL [sesR sb s, docsR ((v, s) :: l)] A w) (hX : TabX A w) :
 Calls Tryz.prog 26 #[.pointer (some ⟨sb, 0, none⟩), v, x.v] w (ActPost A w sb s ((v, s) :: l) x) := by
 by_cases h0 : x.what = 0
 · exact act_offer w sb s n hok hn v l x hsc hsh h0 h hX
 by_cases h1 : x.what = 1
 · exact act_reach w sb s n hok hn v l x hsc h1 h hX
 by_cases h2 : x.what = 2
 · exact act_beside w sb s n hok hn v l x hsc hsh h2 h hX
 by_cases h3 : x.what = 3
 · exact act_take w sb s n hok hn v l x hsc h3 h hX
 by_cases h4 : x.what = 4
 · exact act_ack w sb s n hok hn v l x hsc h4 h hX
 by_cases h5 : x.what = 5
 · exact act_hear w sb s n hok hn v l x hsc h5 h hX
 by_cases h6 : x.what = 6
 · exact act_close w sb s n hok hn v l x hsc h6 h hX
 exact act_silent w sb s n hok hn v l x hsc h0 h1 h2 h3 h4 h5 h6 h hX
theorem OkSs.act {s : Ss} {n : Nat} (h : OkSs s n) (x : Sc) : OkSs (s.act x) (n + 1) := by
 unfold Ss.act; split
 · exact h.offer _ _ _
 split
 · exact (h.reach _).mono (Nat.le_succ _)
 split
 · exact h.beside _
 split
 · exact h.take.mono (Nat.le_succ _)
 split
 · exact (h.ack _ _).mono (Nat.le_succ _)
 split
 · exact (h.hear _).mono (Nat.le_succ _)
 split
 · exact (h.close _).mono (Nat.le_succ _)
 exact h.mono (Nat.le_succ _)
def Ss.acts (s : Ss) (l : List Sc) : Ss := l.foldl Ss.act s
theorem OkSs.acts {s : Ss} {n : Nat} (h : OkSs s n) (l : List Sc) : OkSs (s.acts l) (n + l.length) := by
 induction l generalizing s n with
 | nil => exact h
 | cons x l ih =>
   have := ih (h.act x); rw [Nat.add_right_comm, Nat.add_assoc] at this; exact this
theorem slong_any (w : World) (x : Sc) : Calls Tryz.prog 74 #[x.v] w fun e w' => e = .returned (.bool (longS x)) ∧ Ext w w' := by
 have hc : ∀ n : Nat, decide ((300 : Int) < (n : Int)) = decide (300 < n) := fun n => by rw [decide_eq_decide]; omega
 have HL := Hd (show longS x = (decide (300 < x.e.text.length) || decide (300 < x.token.length) || decide (300 < x.said.text.length) || decide (300 < x.said.token.length) || decide (300 < x.said.e.text.length)) from rfl); have HM := Hd (Mem.start0 w); have HV := Hd (show x.v = .agg x.cells.toArray from rfl); rw [HV.out]; have g1 := hc x.e.text.length; have g2 := hc x.token.length; have g3 := hc x.said.text.length; have g4 := hc x.said.token.length; have g5 := hc x.said.e.text.length; have k1 := bs_size x.e.text; have k2 := bs_size x.token; have k3 := bs_size x.said.text; have k4 := bs_size x.said.token; have k5 := bs_size x.said.e.text; clear hc; generalize decide (300 < x.e.text.length) = b1 at g1 HL
 generalize decide (300 < x.token.length) = b2 at g2 HL
 generalize decide (300 < x.said.text.length) = b3 at g3 HL
 generalize decide (300 < x.said.token.length) = b4 at g4 HL
 generalize decide (300 < x.said.e.text.length) = b5 at g5 HL
 cases b1
 case true =>
  go_enter Tryz.func74, Tryz.ntmps74
  have fM := HM.out.fa; go_wp2_with (((with_reducible refine at_box 79 _ rfl ?_); refine boW 79 _ rfl rfl rfl HM.out ?_; intro w9 n9 M); replace HM := Hd M; clear M fM; have fM := HM.out.fa); all_goals clear fM
  go_ret; exact ⟨by rw [HL.out]; rfl, HM.out.extTo⟩
 cases b2
 case true =>
  go_enter Tryz.func74, Tryz.ntmps74
  have fM := HM.out.fa; go_wp2_with (((with_reducible refine at_box 79 _ rfl ?_); refine boW 79 _ rfl rfl rfl HM.out ?_; intro w9 n9 M); replace HM := Hd M; clear M fM; have fM := HM.out.fa); all_goals clear fM
  go_ret; exact ⟨by rw [HL.out]; rfl, HM.out.extTo⟩
 cases b3
 case true =>
  go_enter Tryz.func74, Tryz.ntmps74
  have fM := HM.out.fa; go_wp2_with (((with_reducible refine at_box 79 _ rfl ?_); refine boW 79 _ rfl rfl rfl HM.out ?_; intro w9 n9 M); replace HM := Hd M; clear M fM; have fM := HM.out.fa); all_goals clear fM
  go_ret; exact ⟨by rw [HL.out]; rfl, HM.out.extTo⟩
 cases b4
 case true =>
  go_enter Tryz.func74, Tryz.ntmps74
  have fM := HM.out.fa; go_wp2_with (((with_reducible refine at_box 79 _ rfl ?_); refine boW 79 _ rfl rfl rfl HM.out ?_; intro w9 n9 M); replace HM := Hd M; clear M fM; have fM := HM.out.fa); all_goals clear fM
  go_ret; exact ⟨by rw [HL.out]; rfl, HM.out.extTo⟩
 cases b5
 case true =>
  go_enter Tryz.func74, Tryz.ntmps74
  have fM := HM.out.fa; go_wp2_with (((with_reducible refine at_box 79 _ rfl ?_); refine boW 79 _ rfl rfl rfl HM.out ?_; intro w9 n9 M); replace HM := Hd M; clear M fM; have fM := HM.out.fa); all_goals clear fM
  go_ret; exact ⟨by rw [HL.out]; rfl, HM.out.extTo⟩
 go_enter Tryz.func74, Tryz.ntmps74
 have fM := HM.out.fa; go_wp2_with (((with_reducible refine at_box 79 _ rfl ?_); refine boW 79 _ rfl rfl rfl HM.out ?_; intro w9 n9 M); replace HM := Hd M; clear M fM; have fM := HM.out.fa); all_goals clear fM
 go_ret; exact ⟨by rw [HL.out]; rfl, HM.out.extTo⟩
def Scs (w : World) (A : Nat → Prop) (v : Value) (ls : List Sc) : Prop := SlV A (AtOf w 19 fun cs (x : Sc) => cs = x.cells ∧ OkSc x) 19 v ls
theorem Scs.len {w : World} {A : Nat → Prop} {v : Value} {ls : List Sc} (h : Scs w A v ls) : ∃ a c, v = .slice a ls.length c := by
 rcases h with ⟨a, rfl, rfl⟩ | ⟨b, o, c, rfl, _⟩
 · exact ⟨_, _, rfl⟩
 · exact ⟨_, _, rfl⟩
theorem Scs.at {w : World} {A : Nat → Prop} {a : Option Addr} {n c : Nat} {ls : List Sc} (h : Scs w A (.slice a n c) ls) (i : Nat) (hi : i < ls.length) :
 ∃ g o, a = some ⟨g, o, none⟩ ∧ n = ls.length ∧ A g ∧ OkSc ls[i] ∧ ∀ j, j < 19 → w.cell? ⟨g, o + i * 19 + j, none⟩ = (ls[i].cells)[j]? := by
 rcases h with ⟨a', h1, h2⟩ | ⟨b, o, c', h1, h2, h3, h4⟩
 · rw [h2] at hi; cases hi
 · cases h1
   obtain ⟨cs, ⟨e1, e2⟩, e4, e5⟩ := h4 i hi; rw [e1] at e5; exact ⟨b, o, rfl, rfl, h3, e2, e5⟩
theorem sc_load {w : World} {g o : Nat} {x : Sc} (h : ∀ j, j < 19 → w.cell? ⟨g, o + j, none⟩ = (x.cells)[j]?) : (Instr.loadAt 79 (.pointer (some ⟨g, o, none⟩))).run Tryz.prog w = .ok (.agg x.cells.toArray) w :=
 run_loadAt_mid w g o 79 x.cells _ (fun j v hv => by
  have hj : j < 19 := by
   have := (List.getElem?_eq_some_iff.1 hv).1; exact this
  have h1 := h j hj; rw [hv] at h1; exact h1) Tryz.underlying79 rfl infoSc
theorem elM' {P : Program} {o : Oper} {a : Act} {w : World} {b k : Nat} {v : Value} (ty : TypeId) (x : Operand) (ho : o.op = .load ty x) (hx : a.eval x = .pointer (some ⟨b, k, none⟩)) (h : (Instr.loadAt ty (.pointer (some ⟨b, k, none⟩))).run P w = .ok v w) : (execOp a.eval o).run P w = .ok (.value v) w := by
 simp [execOp, ho, hx, Result.andThen, h]
theorem few_any {A : Nat → Prop} (w : World) (v : Value) (ls : List Sc) (most : Int) (h : Scs w A v ls) (hl : ls.length ≤ 9223372036854775807) :
 Calls Tryz.prog 21 #[v, .int .i64 most] w fun e w' => e = .returned (.bool ((ls.all fun x => !longS x) && decide ((ls.length : Int) ≤ most))) ∧ Ext w w' := by
 obtain ⟨a, c, rfl⟩ := h.len; have HS := Hd h; clear h; go_enter Tryz.func21, Tryz.ntmps21
 go_wp2_with fail; go_loopw [5] (fun i wr => ∃ j : Nat, j ≤ ls.length ∧ i = .int .i64 j ∧ Hid (((ls.take j).all fun x => !longS x) = true) ∧ Hid (Mem NoB w wr [])) (fun i _ => ls.length - (intOf i).toNat)
 case atStart => exact ⟨0, Nat.zero_le _, rfl, Hd (by simp), Hd (Mem.start0 w)⟩
 case round =>
  obtain ⟨j, hj, rfl, HAL, HM⟩ := hrel; by_cases hlt : j < ls.length
  · have g1 : (j : Int) < ls.length := by omega
    have g2 : ¬ (j : Int) < 0 := by omega
    obtain ⟨g, o, rfl, -, -, hok, hat⟩ := HS.out.at j hlt; have HSN := Hd (show ((ls.take (j + 1)).all fun x => !longS x) = (((ls.take j).all fun x => !longS x) && !longS ls[j]) by rw [List.take_succ_eq_append_getElem hlt, List.all_append]; simp); have HIN := Hd (List.getElem_mem hlt); obtain ⟨x, hx⟩ : ∃ x, ls[j] = x := ⟨_, rfl⟩; rw [hx] at hat HSN HIN hok
    have hld := sc_load (w := wr) (g := g) (o := o + j * 19) (x := x) (fun k hk => by
     have h1 := hat k hk; have h2 : x.cells[k]? = some (x.cells[k]'(by exact hk)) := List.getElem?_eq_getElem _; rw [h2] at h1 ⊢; exact HM.out.extTo.cell h1)
    clear hat hx hok; go_wp2_with ((with_reducible refine at_list ?_); (with_reducible refine at_load 79 _ rfl ?_); refine wpList_ran rfl (elM' 79 _ rfl rfl hld) ?_); clear hld; refine (slong_any wr x).mono ?_; rintro e w2 ⟨rfl, hE2⟩; replace HM := Hd (HM.out.ext hE2); clear hE2; cases hm : longS x
    · rw [hm, HAL.out] at HSN
      clear hm; go_wp2_with fail; go_roundw
      case rel => exact ⟨j + 1, by omega, by go_num, HSN, HM⟩
      case measure => simp [intOf]; omega
    · go_wp2_with fail
      go_ret; refine ⟨?_, HM.out.extTo⟩; have h1 : (ls.all fun x => !longS x) = false := List.all_eq_false.2 ⟨x, HIN.out, by rw [hm]; simp⟩; rw [h1, Bool.false_and]; rfl
  · obtain rfl : j = ls.length := by omega
    rw [List.take_length] at HAL; go_wp2_with fail; go_ret; exact ⟨by rw [HAL.out]; simp, HM.out.extTo⟩
section
open Go.RowKit Go.ChangeShapes Go.WideShapes
theorem cellsSc : Tryz.prog.cellsOf 79 = 19 := by kernel_rfl
theorem list19 {cs : List Value} (h : cs.length = 19) : ∃ a b c d e f g i j k l m n o p q r s t, cs = [a, b, c, d, e, f, g, i, j, k, l, m, n, o, p, q, r, s, t] := by
 match cs, h with
 | [a, b, c, d, e, f, g, i, j, k, l, m, n, o, p, q, r, s, t], _ => exact ⟨a, b, c, d, e, f, g, i, j, k, l, m, n, o, p, q, r, s, t, rfl⟩
section
variable {H : Type} {enc : TypeId × Value → H} {w : World}
theorem rd_sc : Rd enc Tryz.prog w 79 fun cs (x : Sc) => cs = x.cells ∧ OkSc x := fun fuel cs x h => by
 obtain ⟨hl, hf⟩ := rd_field Tryz.underlying79 h; rw [cellsSc] at hl; obtain ⟨c0, c1, c2, c3, c4, c5, c6, c7, c8, c9, c10, c11, c12, c13, c14, c15, c16, c17, c18, rfl⟩ := list19 hl; obtain ⟨k0, h0, g0⟩ := hf 0 _ 0 1 rfl rfl cellsI (rd_int Tryz.underlying3); obtain ⟨k1, h1, g1⟩ := hf 1 _ 1 1 rfl rfl cellsI64 (rd_int Tryz.underlying2); obtain ⟨k2, h2, g2⟩ := hf 2 _ 2 1 rfl rfl cellsI64 (rd_int Tryz.underlying2); obtain ⟨e, h3, g3, g3'⟩ := hf 3 _ 3 4 rfl rfl cellsEn rd_en; obtain ⟨l, h4, g4⟩ := hf 4 _ 7 1 rfl rfl cellsS (rd_string Tryz.underlying9); obtain ⟨s, h5, g5, g6⟩ := hf 5 _ 8 11 rfl rfl cellsSd rd_sd; simp at h0 h1 h2 h3 h4 h5; have h6 : [c3, c4, c5, c6] = e.cells := by simpa using h3
 have h7 : [c8, c9, c10, c11, c12, c13, c14, c15, c16, c17, c18] = s.cells := by simpa using h5
 cases h6
 cases h7
 exact ⟨⟨k0, k1, k2, e, l, s⟩, by rw [h0, h1, h2, h4], ⟨g3, g6, g5.ek, i64_of g2, i64_of g1⟩⟩
theorem open_scs {v : Value} {d : DataW H} {p : List MemPlace} {b : Nat} (hv : Value.okWide Tryz.prog w .any b 62 v) (h : DataW.Trod enc Tryz.prog w 0 (fun _ => true) true 62 v d p) :
 ∃ l : List Sc, Scs w (Old w) v l ∧ l.length ≤ 9223372036854775807 := by
 obtain ⟨fuel, hf⟩ := h; obtain ⟨l, x, h1, h2, h3⟩ := rd_slice 19 Tryz.underlying62 cellsSc (by decide) rd_sc fuel _ _ hf; rw [ok_slice Tryz.underlying62 hv] at h1; cases h1
 exact ⟨l, h2, h3⟩
end
end
section
open Go.RowKit Go.ChangeShapes Go.WideShapes
section
variable {H : Type} {enc : TypeId × Value → H} {w : World}
end
end
end Go.Proofs.YtoadjbgpfihoiaaGreatDoor
