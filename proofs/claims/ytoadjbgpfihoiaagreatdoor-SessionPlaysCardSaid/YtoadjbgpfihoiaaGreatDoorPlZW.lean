/- Texts SWorks, SBase, SNew, one behind the other. Conditions: as each says. -/
import Derived.Test.YtoadjbgpfihoiaaGreatDoorPlZV
set_option linter.unusedVariables false
set_option linter.unusedSimpArgs false
set_option maxHeartbeats 8000000
set_option maxRecDepth 100000
namespace Go.Proofs.YtoadjbgpfihoiaaGreatDoor
open Go.RowKit
theorem Mem.step2 {F : Nat → Prop} {w0 w : World} {L : List Res} {r : Res} (h : Mem F w0 w (r :: L)) : ∃ A, r.p A w ∧ (∀ k, A k → F k ∨ w0.heap.size ≤ k) ∧ (∀ (r' : Res) (w' : World), Upd A w w' r' → Mem F w0 w' (r' :: L)) ∧ ∀ b t cs L2, Pick L (cellsR b t cs) L2 → ¬ A b := by
 obtain ⟨a, G, ⟨A, B, h1, h2, h3, h4⟩, c⟩ := h; have hA := fun k hk => c k ((h4 k).2 (.inl hk))
 refine ⟨A, h1, hA, fun r' w' ⟨A', u1, u2, u3⟩ => ?_, fun b t cs L2 p hb => ?_⟩
 · have hB := fun k hk => c k ((h4 k).2 (.inr hk))
   have hlt := h2.lt; refine ⟨a.then u2 fun i hi h => ?_, fun k => A' k ∨ B k, ⟨A', B, u1, h2.keeps u2 fun k hk hA' => h3 k hA' hk, fun k h5 h6 => ?_, fun k => Iff.rfl⟩, fun k hk => ?_⟩
   · rcases hA i h with h | h
     · exact h
     · omega
   · rcases u3 k h5 with h | h
     · exact h3 k h h6
     · have := hlt k h6; omega
   · rcases hk with hk | hk
     · rcases u3 k hk with h | h
       · exact hA k h
       · have := a.size; exact .inr (by omega)
     · exact hB k hk
 · obtain ⟨C, D, g1, g2, g3, g4⟩ := p.sep h2
   exact h3 b hb ((g4 b).2 (.inl ((g1.1 b).2 rfl)))
theorem infoEnt : (Tryz.prog.info? 35).map (·.size) = some 4 := by kernel_rfl
theorem works_any (w : World) (hT : Tabs w) : Calls Tryz.prog 22 #[] w fun e w' => e = .returned (.bool true) ∧ Ext w w' := by
 have HM := Hd (Mem.start0 w); have HX := Hd (show TabX NoB w from ⟨hT, noB _, noB _⟩); clear hT; go_enter Tryz.func22, Tryz.ntmps22
 have fM := HM.out.fa; go_wp2_with fail; all_goals clear fM
 obtain ⟨k1, hk1⟩ : ∃ k, w.heap.size = k := ⟨_, rfl⟩; refine nxt HM fun w1 M => ?_
 replace HM := M; clear M; rw [hk1] at HM ⊢; clear hk1; refine (snew_yes w1 3 1 5 2 10 0 wk_newOk).mono ?_; rintro e w2 ⟨sb, rfl, hU⟩; rw [wk_new] at hU; replace HM := Hd (HM.out.newU hU); clear hU; have fM := HM.out.fa; go_wp2_with fail; all_goals clear fM
 refine nxt HM fun w3 M => ?_
 replace HM := M; clear M; obtain ⟨_, hBk⟩ := HM.out.get (r := cellsR k1 35 [.int .i64 2, .int .i64 1, .int .i64 0, .string ⟨#[]⟩]) pk; have HBO := Hd hBk.2; clear hBk; have fM := HM.out.fa; have hE0 : Keeps (fun k => ¬ k = k1) w3 w3.drew := (Keeps.refl _ _).drew; refine rgK (fun k => ¬ k = k1) [(0, 0), (3, 1), (0, 3), (1, 4), (0, 6), (1, 7), (0, 9), (1, 10), (2, 2), (2, 5), (2, 8)] [4, 7, 10] [2, 5, 8, 11, 12, 13, 14, 15] [11, 12, 13, 14, 15] ?_ (hp := (plan3 [0, 0, 3, 0, 0, 31, 0, 0, 255, 0, 0, 2047, 4095, 8191, 16383, 32767] (by kernel_rfl) rfl (by kernel_rfl))); simp only [planL, nL]; refine pM _ rfl rfl ?_; simp only [nP, nE]; refine pX (v := .agg #[.int .i64 2, .int .i64 1, .int .i64 0, .string ⟨#[]⟩]) rfl (elB 35 _ rfl rfl (HBO.out.ext (Ext.drew0 w3)) Tryz.underlying35 rfl infoEnt) ?_; simp only [nP]; refine pM _ rfl rfl ?_; simp only [nP, nE]; refine pK (v := .agg #[.int .i64 2, .int .i64 1, .int .i64 0, .string ⟨#[]⟩]) rfl (fun y => elB 35 _ rfl rfl (HBO.out.keeps y.h (fun h => h rfl)) Tryz.underlying35 rfl infoEnt) ?_; simp only [nP]; refine pM _ rfl rfl ?_; simp only [nP, nE]; refine pK (v := .agg #[.int .i64 2, .int .i64 1, .int .i64 0, .string ⟨#[]⟩]) rfl (fun y => elB 35 _ rfl rfl (HBO.out.keeps y.h (fun h => h rfl)) Tryz.underlying35 rfl infoEnt) ?_; simp only [nP]; refine pM _ rfl rfl ?_; simp only [nP, nE]; refine pK (v := .agg #[.int .i64 2, .int .i64 1, .int .i64 0, .string ⟨#[]⟩]) rfl (fun y => elB 35 _ rfl rfl (HBO.out.keeps y.h (fun h => h rfl)) Tryz.underlying35 rfl infoEnt) ?_; simp only [nP]; refine plan_does rfl (fun K hK => ?_); go_wp2_with fail; replace HM := Hd HM.out.drew; obtain ⟨A', hA', hAF, hZ, hblk⟩ := (HM.out.pick (r := sesR sb wkA) pk).step2; have hn := hblk k1 _ _ _ (by with_reducible repeat first | exact ph | apply pt); refine (offer_any w3.drew sb wkA 0 okA (by decide) 5 joinE [] (by unfold I64 joinE; decide) (by decide) (by decide) hA' (tabX_ok.step HX.out HM.out.keepsTo hAF)).mono ?_; rintro r wz ⟨rfl, hU⟩; rw [wk1] at hU ⊢; have hE1 := hE0.then hU.keepsTo (fun i _ h e => hn (e ▸ h)); replace HM := Hd (hZ _ _ hU); clear hA' hAF hZ hblk hn hU; clear A'; refine hK _ _ ⟨ClsK.of (by assumption), ?_⟩; clear hK K; try simp only [nP]
 refine plan_does rfl (fun K hK => ?_); go_wp2_with fail; skip
 obtain ⟨A', hA', hAF, hZ, hblk⟩ := (HM.out.pick (r := sesR sb wkB) pk).step2; have hn := hblk k1 _ _ _ (by with_reducible repeat first | exact ph | apply pt); refine (offer_any _ sb wkB 1 okB (by decide) 6 joinE [] (by unfold I64 joinE; decide) (by decide) (by decide) hA' (tabX_ok.step HX.out HM.out.keepsTo hAF)).mono ?_; rintro r wz ⟨rfl, hU⟩; rw [wk2] at hU ⊢; have hE2 := hE1.then hU.keepsTo (fun i _ h e => hn (e ▸ h)); replace HM := Hd (hZ _ _ hU); clear hA' hAF hZ hblk hn hU; clear A'; refine hK _ _ ⟨ClsK.of (by assumption), ?_⟩; clear hK K; try simp only [nP]
 refine plan_does rfl (fun K hK => ?_); go_wp2_with fail; skip
 obtain ⟨A', hA', hAF, hZ, hblk⟩ := (HM.out.pick (r := sesR sb wkC) pk).step2; have hn := hblk k1 _ _ _ (by with_reducible repeat first | exact ph | apply pt); refine (offer_any _ sb wkC 2 okC (by decide) 7 joinE [] (by unfold I64 joinE; decide) (by decide) (by decide) hA' (tabX_ok.step HX.out HM.out.keepsTo hAF)).mono ?_; rintro r wz ⟨rfl, hU⟩; rw [wk3] at hU ⊢; have hE3 := hE2.then hU.keepsTo (fun i _ h e => hn (e ▸ h)); replace HM := Hd (hZ _ _ hU); clear hA' hAF hZ hblk hn hU; clear A'; refine hK _ _ ⟨ClsK.of (by assumption), ?_⟩; clear hK K; try simp only [nP]
 refine plan_nil ?_; simp only [tailL, List.filterMap_cons, List.filterMap_nil, nL]; change wpList _ _ _ (_ :: _ :: _ :: _ :: _ :: []) _ _; go_wp2_with fail; skip
 obtain ⟨A', hA', hAF, hZ, hblk⟩ := (HM.out.pick (r := sesR sb wkC) pk).step2; have hn := hblk k1 _ _ _ (by with_reducible repeat first | exact ph | apply pt); refine (offer_any _ sb wkC 2 okC (by decide) 9 joinE [] (by unfold I64 joinE; decide) (by decide) (by decide) hA' (tabX_ok.step HX.out HM.out.keepsTo hAF)).mono ?_; rintro r wz ⟨rfl, hU⟩; rw [wk4] at hU ⊢; have hE4 := hE3.then hU.keepsTo (fun i _ h e => hn (e ▸ h)); replace HM := Hd (hZ _ _ hU); clear hA' hAF hZ hblk hn hU; clear A'; clear fM; clear hE0 hE1 hE2 hE3 hE4; have fM := HM.out.fa; go_wp2_with fail; all_goals clear fM
 refine nxt HM fun w5 M => ?_
 replace HM := M; clear M; obtain ⟨A', hA', hAF, hZ, hblk⟩ := (HM.out.pick (r := sesR sb wkC) pk).step2; refine (staken_any w5 sb wkC 2 okC hA' (tabX_ok.step HX.out HM.out.keepsTo hAF)).mono ?_; rintro r wz ⟨rfl, hU⟩; rw [wt5]; rw [wk5] at hU; replace HM := Hd (hZ _ _ hU); clear hA' hAF hZ hblk hU; clear A'; have fM := HM.out.fa; go_wp2_with fail; all_goals clear fM
 refine nxt HM fun w6 M => ?_
 replace HM := M; clear M; obtain ⟨A', hA', hAF, hZ, hblk⟩ := (HM.out.pick (r := sesR sb wkD) pk).step2; refine (staken_any w6 sb wkD 2 okD hA' (tabX_ok.step HX.out HM.out.keepsTo hAF)).mono ?_; rintro r wz ⟨rfl, hU⟩; rw [wt6]; rw [wk6] at hU; replace HM := Hd (hZ _ _ hU); clear hA' hAF hZ hblk hU; clear A'; have fM := HM.out.fa; go_wp2_with fail; all_goals clear fM
 refine nxt HM fun w7 M => ?_
 replace HM := M; clear M; obtain ⟨A', hA', hAF, hZ, hblk⟩ := (HM.out.pick (r := sesR sb wkE) pk).step2; refine (offer_any w7 sb wkE 2 okE (by decide) 7 joinE [] (by unfold I64 joinE; decide) (by decide) (by decide) hA' (tabX_ok.step HX.out HM.out.keepsTo hAF)).mono ?_; rintro r wz ⟨rfl, hU⟩; rw [wk7] at hU ⊢; replace HM := Hd (hZ _ _ hU); clear hA' hAF hZ hblk hU; clear A'; have fM := HM.out.fa; go_wp2_with fail; all_goals clear fM
 refine nxt HM fun w8 M => ?_
 replace HM := M; clear M; obtain ⟨A', hA', hAF, hZ, hblk⟩ := (HM.out.pick (r := sesR sb wkF) pk).step2; refine (staken_any w8 sb wkF 3 okF hA' (tabX_ok.step HX.out HM.out.keepsTo hAF)).mono ?_; rintro r wz ⟨rfl, hU⟩; rw [wt8]; rw [wk8] at hU; replace HM := Hd (hZ _ _ hU); clear hA' hAF hZ hblk hU; clear A'; have fM := HM.out.fa; go_wp2_with fail; all_goals clear fM
 refine nxt HM fun w9 M => ?_
 replace HM := M; clear M; obtain ⟨A', hA', hAF, hZ, hblk⟩ := (HM.out.pick (r := sesR sb wkF) pk).step2; refine (ack_any w9 sb wkF 6 1 hA').mono ?_; rintro r wz ⟨rfl, hU⟩; rw [wk9] at hU ⊢; replace HM := Hd (hZ _ _ hU); clear hA' hAF hZ hblk hU; clear A'; have fM := HM.out.fa; go_wp2_with fail; all_goals clear fM
 refine nxt HM fun w10 M => ?_
 replace HM := M; clear M; obtain ⟨A', hA', hAF, hZ, hblk⟩ := (HM.out.pick (r := sesR sb wkG) pk).step2; refine (staken_any w10 sb wkG 3 okG hA' (tabX_ok.step HX.out HM.out.keepsTo hAF)).mono ?_; rintro r wz ⟨rfl, hU⟩; rw [wt10]; rw [wk10] at hU; replace HM := Hd (hZ _ _ hU); clear hA' hAF hZ hblk hU; clear A'; have fM := HM.out.fa; go_wp2_with fail; all_goals clear fM
 refine nxt HM fun w11 M => ?_
 replace HM := M; clear M; obtain ⟨Ahs, hs⟩ := HM.out.get (r := sesR sb wkH) pk; refine (silent_any w11 sb wkH 10 hs (by decide) (by unfold I64; decide)).mono ?_; rintro r wz ⟨rfl, hE⟩; rw [wk11]; replace HM := Hd (HM.out.ext hE); clear hE hs; have fM := HM.out.fa; go_wp2_with fail; all_goals clear fM
 refine nxt HM fun w12 M => ?_
 replace HM := M; clear M; obtain ⟨Ahs, hs⟩ := HM.out.get (r := sesR sb wkH) pk; refine (silent_any w12 sb wkH 11 hs (by decide) (by unfold I64; decide)).mono ?_; rintro r wz ⟨rfl, hE⟩; rw [wk12]; replace HM := Hd (HM.out.ext hE); clear hE hs; have fM := HM.out.fa; go_wp2_with fail; all_goals clear fM
 refine nxt HM fun w13 M => ?_
 replace HM := M; clear M; obtain ⟨A', hA', hAF, hZ, hblk⟩ := (HM.out.pick (r := sesR sb wkH) pk).step2; refine (close_any w13 sb wkH 0 hA' (tabX_ok.step HX.out HM.out.keepsTo hAF)).mono ?_; rintro r wz ⟨rfl, hU⟩; rw [wk13] at hU ⊢; replace HM := Hd (hZ _ _ hU); clear hA' hAF hZ hblk hU; clear A'; have fM := HM.out.fa; go_wp2_with fail; all_goals clear fM
 refine nxt HM fun w14 M => ?_
 replace HM := M; clear M; obtain ⟨A', hA', hAF, hZ, hblk⟩ := (HM.out.pick (r := sesR sb wkI) pk).step2; refine (staken_any w14 sb wkI 3 okI hA' (tabX_ok.step HX.out HM.out.keepsTo hAF)).mono ?_; rintro r wz ⟨rfl, hU⟩; rw [wt14]; rw [wk14] at hU; replace HM := Hd (hZ _ _ hU); clear hA' hAF hZ hblk hU; clear A'; have fM := HM.out.fa; go_wp2_with fail; all_goals clear fM
 refine nxt HM fun w15 M => ?_
 replace HM := M; clear M; obtain ⟨A', hA', hAF, hZ, hblk⟩ := (HM.out.pick (r := sesR sb wkJ) pk).step2; refine (staken_any w15 sb wkJ 3 okJ hA' (tabX_ok.step HX.out HM.out.keepsTo hAF)).mono ?_; rintro r wz ⟨rfl, hU⟩; rw [wt15]; rw [wk15] at hU; replace HM := Hd (hZ _ _ hU); clear hA' hAF hZ hblk hU; clear A'; have fM := HM.out.fa; go_wp2_with fail; all_goals clear fM
 refine cret (snum_any _ _) ?_; have fM := HM.out.fa; go_wp2_with fail; all_goals clear fM
 refine cret (snum_any _ _) ?_; have fM := HM.out.fa; go_wp2_with fail; all_goals clear fM
 refine cret (snum_any _ _) ?_; have fM := HM.out.fa; go_wp2_with fail; all_goals clear fM
 refine cret (snum_any _ _) ?_; have fM := HM.out.fa; go_wp2_with fail; all_goals clear fM
 refine cret (snum_any _ _) ?_; have fM := HM.out.fa; go_wp2_with fail; all_goals clear fM
 refine cret (snum_any _ _) ?_; have fM := HM.out.fa; go_wp2_with fail; all_goals clear fM
 refine cret (snum_any _ _) ?_; have fM := HM.out.fa; go_wp2_with fail; all_goals clear fM
 refine cret (snum_any _ _) ?_; have fM := HM.out.fa; go_wp2_with fail; all_goals clear fM
 refine nxt HM fun w16 M => ?_
 replace HM := M; clear M; obtain ⟨A', hA', hAF, hZ, hblk⟩ := (HM.out.pick (r := sesR sb wkJ) pk).step2; refine (hear_any w16 sb wkJ 12 hA').mono ?_; rintro r wz ⟨rfl, hU⟩; rw [wk16] at hU ⊢; replace HM := Hd (hZ _ _ hU); clear hA' hAF hZ hblk hU; clear A'; have fM := HM.out.fa; go_wp2_with fail; all_goals clear fM
 refine cret (snum_any _ _) ?_; have fM := HM.out.fa; go_wp2_with fail; all_goals clear fM
 go_ret; exact ⟨rfl, HM.out.extTo⟩
theorem Scs.keeps {S : Nat → Prop} {w w' : World} {A : Nat → Prop} {v : Value} {ls : List Sc} (h : Scs w A v ls) (e : Keeps S w w') (hs : ∀ k, A k → ¬ S k) : Scs w' A v ls := by
 rcases h with ⟨a, h1, h2⟩ | ⟨b, o, c, h1, h2, h3, h4⟩
 · exact .inl ⟨a, h1, h2⟩
 · refine .inr ⟨b, o, c, h1, h2, h3, fun i hi => ?_⟩
   obtain ⟨cs, ⟨e1, e2⟩, e4, e5⟩ := h4 i hi; refine ⟨cs, ⟨e1, e2⟩, e4, fun j hj => ?_⟩; have h5 := e5 j hj; have h6 : cs[j]? = some (cs[j]'(by rw [e4]; exact hj)) := List.getElem?_eq_getElem _; rw [h6] at h5 ⊢; exact e.cell (hs b h3) h5
theorem Scs.ext {w w' : World} {A : Nat → Prop} {v : Value} {ls : List Sc} (h : Scs w A v ls) (e : Ext w w') : Scs w' A v ls := h.keeps e fun _ _ => noB _
theorem Scs.ok {w : World} {A : Nat → Prop} {a : Option Addr} {n c : Nat} {ls : List Sc} (h : Scs w A (.slice a n c) ls) (i : Nat) (hi : i < ls.length) : OkSc ls[i] := let ⟨_, _, _, _, _, h, _⟩ := h.at i hi; h
theorem Scs.ld {w : World} {A : Nat → Prop} {g o n c : Nat} {ls : List Sc} (h : Scs w A (.slice (some ⟨g, o, none⟩) n c) ls) (i : Nat) (hi : i < ls.length) : (Instr.loadAt 79 (.pointer (some ⟨g, o + i * 19, none⟩))).run Tryz.prog w = .ok (.agg ls[i].cells.toArray) w := by
 obtain ⟨g', o', h1, -, -, -, h2⟩ := h.at i hi; cases h1
 exact sc_load h2
theorem Scs.adr {w : World} {A : Nat → Prop} {a : Option Addr} {n c : Nat} {ls : List Sc} (h : Scs w A (.slice a n c) ls) (i : Nat) (hi : i < ls.length) : ∃ g o, a = some ⟨g, o, none⟩ := let ⟨g, o, h, _⟩ := h.at i hi; ⟨g, o, h⟩
def fewS (ls : List Sc) (most : Int) : Bool := (ls.all fun x => !longS x) && decide ((ls.length : Int) ≤ most)
theorem fewS.short {ls : List Sc} {most : Int} (h : fewS ls most = true) (i : Nat) (hi : i < ls.length) : ShortSc ls[i] := by
 unfold fewS at h; rw [Bool.and_eq_true] at h; have h1 := List.all_eq_true.1 h.1 _ (List.getElem_mem hi); exact short_of (by simpa using h1)
theorem fewS.len {ls : List Sc} {most : Int} (h : fewS ls most = true) : (ls.length : Int) ≤ most := by
 unfold fewS at h; rw [Bool.and_eq_true] at h; simpa using h.2
theorem acts_snoc (s : Ss) (ls : List Sc) (k : Nat) (hk : k < ls.length) : s.acts (ls.take (k + 1)) = (s.acts (ls.take k)).act ls[k] := by
 rw [List.take_succ_eq_append_getElem hk]; unfold Ss.acts; rw [List.foldl_append]; rfl
def stV (s : Ss) : Value := .agg s.state.toArray
def stO (s : Ss) : Sv := ⟨s.member, s.number, s.next, s.sent, s.acked, s.heard, s.live, s.closed, s.queued⟩
theorem eq_st (s : Ss) (W : World) : (binOp .eql 68 (stV s) (stV s)).run Tryz.prog W = .ok (.bool true) W := by
 have h := eq_sv (stO s) (stO s) W; rw [decide_eq_true rfl] at h; exact h
theorem ne_st (s : Ss) (W : World) : (binOp .neq 68 (stV s) (stV s)).run Tryz.prog W = .ok (.bool false) W := by
 have h := ne_sv (stO s) (stO s) W; rw [decide_eq_true rfl] at h; exact h
theorem gd_st (s : Ss) (op : BinOp) (x y : Operand) (W : World) : (eqGuard op 68 x y (stV s) (stV s)).run Tryz.prog W = .ok () W := run_eqGuard_agg W op _ x y _ _ (by kernel_rfl)
theorem OkSs.its6 {s : Ss} {n : Nat} (h : OkSs s n) : ∀ x ∈ s.ring.items, x.bytes.length ≤ 1000000 := fun x hx => Nat.le_trans (h.its x hx) (by decide)
theorem OkSs.len3 {s : Ss} {n : Nat} (h : OkSs s n) : s.ring.items.length ≤ 1000 := by have := h.len; have := h.most; omega
theorem sst_any {A : Nat → Prop} (w : World) (sb : Nat) (s : Ss) (n : Nat) (hok : OkSs s n) (h : (sesR sb s).p A w) :
 Calls Tryz.prog 39 #[.pointer (some ⟨sb, 0, none⟩)] w fun e w' => e = .returned (stV s) ∧ Ext w w' := state_any w sb s h hok.its6 hok.len3
theorem dst_any {A : Nat → Prop} (w : World) (v : Value) (s : Ss) (n : Nat) (hok : OkSs s n) (h : DocAt w A v s) :
 Calls Tryz.prog 40 #[v] w fun e w' => e = .returned (stV s) ∧ Ext w w' := dstate_any w v s h hok.len3
theorem few_s {A : Nat → Prop} (w : World) (v : Value) (ls : List Sc) (most : Int) (h : Scs w A v ls) (hl : ls.length ≤ 9223372036854775807) :
 Calls Tryz.prog 21 #[v, .int .i64 most] w fun e w' => e = .returned (.bool (fewS ls most)) ∧ Ext w w' := few_any w v ls most h hl
theorem Mem.docNew {F : Nat → Prop} {w0 w w' : World} {L : List Res} {v : Value} {s : Ss} (h : Mem F w0 w L) (hd : DocAt w' NoB v s) (e : Ext w w') : Mem F w0 w' (docsR [(v, s)] :: L) :=
 h.new e ⟨fun p hp => by
  rw [List.mem_singleton] at hp; subst hp; exact hd, fun k h => (noB _ h).elim⟩ (fun k h => (noB _ h).elim)
theorem oaK {P : Program} {o : Oper} {a : Act} {w w0 w1 wr : World} {Q : Exit → Act → World → Prop} {F S : Nat → Prop} {L L1 : List Res} {vs : List Value} {K : Act → World → Prop} (ty : TypeId) (ho : o.op = .alloc ty) (hz : (zeroValue ty).run P w = .ok (.agg vs.toArray) w) (m : Mem F w0 w1 L) [Wo w1 L w L1] (he : Keeps S wr w)
 (k : ∀ w' n, Mem F w0 w' (cellsR n ty vs :: L1) → Keeps S wr w' → K (a.put o.dst (.pointer (some ⟨n, 0, none⟩))) w') : Oper.wp P o a w K Q := by
 have hb := Box.new w ty vs; have he' : Ext w (w.alloc (.cells vs.toArray ty)) := (Keeps.refl _ _).alloc _; unfold Oper.wp; have : (execOp a.eval o).run P w = .ok (.value (.pointer (some ⟨w.heap.size, 0, none⟩))) (w.alloc (.cells vs.toArray ty)) := by simp [execOp, ho, Instr.alloc, hz, newVar, newRow, Value.cells, Result.andThen]
 rw [this]; exact k _ _ ((m.to (w' := w)).new (G := fun k => k = w.heap.size) he' ⟨fun k => Iff.rfl, hb⟩ (fun k hk => by omega)) (he.ext he')
theorem Mem.mine {w0 w : World} {L L1 : List Res} {b : Nat} {t : TypeId} {cs : List Value} (h : Mem NoB w0 w L) (p : Pick L (cellsR b t cs) L1) : w0.heap.size ≤ b := by
 obtain ⟨A, hA, hAF, -, -⟩ := (h.pick p).step2; exact (hAF b ((hA.1 b).2 rfl)).resolve_left (noB _)
theorem Mem.out2 {w0 w : World} {L L1 L2 : List Res} {b kw : Nat} {t u : TypeId} {cs ds : List Value} (h : Mem NoB w0 w L) [p : PkB L b t cs L1] [q : PkB L1 kw u ds L2] : ¬ (b = kw ∨ b < w0.heap.size) := by
 have h1 := Mem.mine h p.out; have h2 := Mem.ne h p.out q.out; rintro (h3 | h3)
 · exact h2 h3.symm
 · omega
theorem dnew_none (w : World) (member number fr most wait now : Int) (h : newOk member number fr most wait now = false) :
 Calls Tryz.prog 24 #[.int .i64 member, .int .i64 number, .int .i64 fr, .int .i64 most, .int .i64 wait, .int .i64 now] w fun e w' => (∃ cs : List Value, Wd 15 cs ∧ e = .returned (.tuple #[.agg cs.toArray, .int .i64 2])) ∧ Ext w w' := by
 unfold newOk farN at h; by_cases hm : 1 ≤ most ∧ most ≤ 64
 case neg =>
  clear h; have HM := Hd (Mem.start0 w); go_enter Tryz.func24, Tryz.ntmps24
  have fM := HM.out.fa; go_wp2_with (((with_reducible refine at_alloc 73 rfl ?_); refine alW 73 rfl rfl (zeroDS _) HM.out ?_; intro w9 n9 M); replace HM := Hd M; clear M fM; have fM := HM.out.fa); all_goals clear fM
  refine nxt HM fun w1 M => ?_
  replace HM := M; clear M; refine (rnew_no w1 most (by omega)).mono ?_; rintro e w2 ⟨rfl, hE⟩; replace HM := Hd (HM.out.ext hE); clear hE; have fM := HM.out.fa; go_wp2_with (((with_reducible refine at_store 73 _ _ rfl ?_); refine stW 73 _ _ rfl rfl rfl rfl HM.out infoDS ?_; intro w9 M); replace HM := Hd M; clear M fM; have fM := HM.out.fa); all_goals clear fM
  refine nxt HM fun w3 M => ?_
  replace HM := M; clear M; refine bodyPost_ret (results_ct rfl _ rfl (lvW 73 HM.out Tryz.underlying73 rfl infoDS)) rfl ?_; exact ⟨⟨_, inferInstance, rfl⟩, HM.out.extTo⟩
 rw [decide_eq_true hm, Bool.true_and] at h; obtain ⟨m, rfl⟩ : ∃ m : Nat, most = m := ⟨most.toNat, by omega⟩; by_cases h1 : member < 0
 · clear h
   have HM := Hd (Mem.start0 w); go_enter Tryz.func24, Tryz.ntmps24
   have fM := HM.out.fa; go_wp2_with (((with_reducible refine at_alloc 73 rfl ?_); refine alW 73 rfl rfl (zeroDS _) HM.out ?_; intro w9 n9 M); replace HM := Hd M; clear M fM; have fM := HM.out.fa); all_goals clear fM
   refine nxt HM fun w1 M => ?_
   replace HM := M; clear M; refine (rnew_yes w1 m (by omega) (by omega)).mono ?_; rintro e w2 ⟨rfl, hE⟩; replace HM := Hd (HM.out.ext hE); clear hE; have fM := HM.out.fa; go_wp2_with (((with_reducible refine at_store 73 _ _ rfl ?_); refine stW 73 _ _ rfl rfl rfl rfl HM.out infoDS ?_; intro w9 M); replace HM := Hd M; clear M fM; have fM := HM.out.fa); all_goals clear fM
   refine nxt HM fun w3 M => ?_
   replace HM := M; clear M; refine bodyPost_ret (results_ct rfl _ rfl (lvW 73 HM.out Tryz.underlying73 rfl infoDS)) rfl ?_; exact ⟨⟨_, inferInstance, rfl⟩, HM.out.extTo⟩
 by_cases h2 : 15 < member
 · clear h
   have HM := Hd (Mem.start0 w); go_enter Tryz.func24, Tryz.ntmps24
   have fM := HM.out.fa; go_wp2_with (((with_reducible refine at_alloc 73 rfl ?_); refine alW 73 rfl rfl (zeroDS _) HM.out ?_; intro w9 n9 M); replace HM := Hd M; clear M fM; have fM := HM.out.fa); all_goals clear fM
   refine nxt HM fun w1 M => ?_
   replace HM := M; clear M; refine (rnew_yes w1 m (by omega) (by omega)).mono ?_; rintro e w2 ⟨rfl, hE⟩; replace HM := Hd (HM.out.ext hE); clear hE; have fM := HM.out.fa; go_wp2_with (((with_reducible refine at_store 73 _ _ rfl ?_); refine stW 73 _ _ rfl rfl rfl rfl HM.out infoDS ?_; intro w9 M); replace HM := Hd M; clear M fM; have fM := HM.out.fa); all_goals clear fM
   refine nxt HM fun w3 M => ?_
   replace HM := M; clear M; refine bodyPost_ret (results_ct rfl _ rfl (lvW 73 HM.out Tryz.underlying73 rfl infoDS)) rfl ?_; exact ⟨⟨_, inferInstance, rfl⟩, HM.out.extTo⟩
 rw [decide_eq_true (show 0 ≤ member ∧ member ≤ 15 by omega), Bool.true_and] at h; by_cases h3 : 0 ≤ number ∧ number ≤ 2147483647
 case neg =>
  have H3 := Hd (decide_eq_false h3); clear h h3; have HM := Hd (Mem.start0 w); go_enter Tryz.func24, Tryz.ntmps24
  have fM := HM.out.fa; go_wp2_with (((with_reducible refine at_alloc 73 rfl ?_); refine alW 73 rfl rfl (zeroDS _) HM.out ?_; intro w9 n9 M); replace HM := Hd M; clear M fM; have fM := HM.out.fa); all_goals clear fM
  refine nxt HM fun w1 M => ?_
  replace HM := M; clear M; refine (rnew_yes w1 m (by omega) (by omega)).mono ?_; rintro e w2 ⟨rfl, hE⟩; replace HM := Hd (HM.out.ext hE); clear hE; have fM := HM.out.fa; go_wp2_with fail; all_goals clear fM
  refine cret (within_any _ _ _ _) ?_; rw [H3.out]; have fM := HM.out.fa; go_wp2_with (((with_reducible refine at_store 73 _ _ rfl ?_); refine stW 73 _ _ rfl rfl rfl rfl HM.out infoDS ?_; intro w9 M); replace HM := Hd M; clear M fM; have fM := HM.out.fa); all_goals clear fM
  refine nxt HM fun w3 M => ?_
  replace HM := M; clear M; refine bodyPost_ret (results_ct rfl _ rfl (lvW 73 HM.out Tryz.underlying73 rfl infoDS)) rfl ?_; exact ⟨⟨_, inferInstance, rfl⟩, HM.out.extTo⟩
 have H3 := Hd (decide_eq_true h3); rw [H3.out, Bool.true_and] at h; clear h3; by_cases h4 : 0 ≤ fr ∧ fr ≤ 2147483647
 case neg =>
  have H4 := Hd (decide_eq_false h4); clear h h4; have HM := Hd (Mem.start0 w); go_enter Tryz.func24, Tryz.ntmps24
  have fM := HM.out.fa; go_wp2_with (((with_reducible refine at_alloc 73 rfl ?_); refine alW 73 rfl rfl (zeroDS _) HM.out ?_; intro w9 n9 M); replace HM := Hd M; clear M fM; have fM := HM.out.fa); all_goals clear fM
  refine nxt HM fun w1 M => ?_
  replace HM := M; clear M; refine (rnew_yes w1 m (by omega) (by omega)).mono ?_; rintro e w2 ⟨rfl, hE⟩; replace HM := Hd (HM.out.ext hE); clear hE; have fM := HM.out.fa; go_wp2_with fail; all_goals clear fM
  refine cret (within_any _ _ _ _) ?_; rw [H3.out]; have fM := HM.out.fa; go_wp2_with fail; all_goals clear fM
  refine cret (within_any _ _ _ _) ?_; rw [H4.out]; have fM := HM.out.fa; go_wp2_with (((with_reducible refine at_store 73 _ _ rfl ?_); refine stW 73 _ _ rfl rfl rfl rfl HM.out infoDS ?_; intro w9 M); replace HM := Hd M; clear M fM; have fM := HM.out.fa); all_goals clear fM
  refine nxt HM fun w3 M => ?_
  replace HM := M; clear M; refine bodyPost_ret (results_ct rfl _ rfl (lvW 73 HM.out Tryz.underlying73 rfl infoDS)) rfl ?_; exact ⟨⟨_, inferInstance, rfl⟩, HM.out.extTo⟩
 have H4 := Hd (decide_eq_true h4); rw [H4.out, Bool.true_and] at h; clear h4; by_cases h5 : 1 ≤ wait ∧ wait ≤ 1000000
 case neg =>
  have H5 := Hd (decide_eq_false h5); clear h h5; have HM := Hd (Mem.start0 w); go_enter Tryz.func24, Tryz.ntmps24
  have fM := HM.out.fa; go_wp2_with (((with_reducible refine at_alloc 73 rfl ?_); refine alW 73 rfl rfl (zeroDS _) HM.out ?_; intro w9 n9 M); replace HM := Hd M; clear M fM; have fM := HM.out.fa); all_goals clear fM
  refine nxt HM fun w1 M => ?_
  replace HM := M; clear M; refine (rnew_yes w1 m (by omega) (by omega)).mono ?_; rintro e w2 ⟨rfl, hE⟩; replace HM := Hd (HM.out.ext hE); clear hE; have fM := HM.out.fa; go_wp2_with fail; all_goals clear fM
  refine cret (within_any _ _ _ _) ?_; rw [H3.out]; have fM := HM.out.fa; go_wp2_with fail; all_goals clear fM
  refine cret (within_any _ _ _ _) ?_; rw [H4.out]; have fM := HM.out.fa; go_wp2_with fail; all_goals clear fM
  refine cret (within_any _ _ _ _) ?_; rw [H5.out]; have fM := HM.out.fa; go_wp2_with (((with_reducible refine at_store 73 _ _ rfl ?_); refine stW 73 _ _ rfl rfl rfl rfl HM.out infoDS ?_; intro w9 M); replace HM := Hd M; clear M fM; have fM := HM.out.fa); all_goals clear fM
  refine nxt HM fun w3 M => ?_
  replace HM := M; clear M; refine bodyPost_ret (results_ct rfl _ rfl (lvW 73 HM.out Tryz.underlying73 rfl infoDS)) rfl ?_; exact ⟨⟨_, inferInstance, rfl⟩, HM.out.extTo⟩
 have H5 := Hd (decide_eq_true h5); rw [H5.out, Bool.true_and] at h; clear h5; have H6 := Hd h; clear h; have HM := Hd (Mem.start0 w); go_enter Tryz.func24, Tryz.ntmps24
 have fM := HM.out.fa; go_wp2_with (((with_reducible refine at_alloc 73 rfl ?_); refine alW 73 rfl rfl (zeroDS _) HM.out ?_; intro w9 n9 M); replace HM := Hd M; clear M fM; have fM := HM.out.fa); all_goals clear fM
 refine nxt HM fun w1 M => ?_
 replace HM := M; clear M; refine (rnew_yes w1 m (by omega) (by omega)).mono ?_; rintro e w2 ⟨rfl, hE⟩; replace HM := Hd (HM.out.ext hE); clear hE; have fM := HM.out.fa; go_wp2_with fail; all_goals clear fM
 refine cret (within_any _ _ _ _) ?_; rw [H3.out]; have fM := HM.out.fa; go_wp2_with fail; all_goals clear fM
 refine cret (within_any _ _ _ _) ?_; rw [H4.out]; have fM := HM.out.fa; go_wp2_with fail; all_goals clear fM
 refine cret (within_any _ _ _ _) ?_; rw [H5.out]; have fM := HM.out.fa; go_wp2_with fail; all_goals clear fM
 refine cret (within_any _ _ _ _) ?_; rw [H6.out]; have fM := HM.out.fa; go_wp2_with (((with_reducible refine at_store 73 _ _ rfl ?_); refine stW 73 _ _ rfl rfl rfl rfl HM.out infoDS ?_; intro w9 M); replace HM := Hd M; clear M fM; have fM := HM.out.fa); all_goals clear fM
 refine nxt HM fun w3 M => ?_
 replace HM := M; clear M; refine bodyPost_ret (results_ct rfl _ rfl (lvW 73 HM.out Tryz.underlying73 rfl infoDS)) rfl ?_; exact ⟨⟨_, inferInstance, rfl⟩, HM.out.extTo⟩
end Go.Proofs.YtoadjbgpfihoiaaGreatDoor
