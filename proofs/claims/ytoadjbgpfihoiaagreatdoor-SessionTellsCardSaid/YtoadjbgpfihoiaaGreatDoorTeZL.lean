/- Texts SWkP, SWorks, SBase, SNew, STellsP, one behind the other. Conditions: as each says. -/
import Derived.Test.YtoadjbgpfihoiaaGreatDoorTeZK
set_option linter.unusedVariables false
set_option linter.unusedSimpArgs false
set_option maxHeartbeats 8000000
set_option maxRecDepth 100000
namespace Go.Proofs.YtoadjbgpfihoiaaGreatDoor
open Go.RowKit
def joinE : En := ⟨2, 1, 0, []⟩
def lnS (i : Int) : Sd := lineS i joinE []
def liS (i : Int) : It := ⟨false, 0, rawS (lnS i)⟩
theorem sd_a : sdB (lnS 5) = true := by decide +kernel
theorem sd_b : sdB (lnS 6) = true := by decide +kernel
theorem sd_c : sdB (lnS 7) = true := by decide +kernel
theorem sd_d : sdB (lnS 9) = true := by decide +kernel
def wkS (next sent acked heard : Int) (closed : Bool) (l : List It) (bye : Option (List UInt8)) : Ss := ⟨3, 1, next, sent, acked, heard, false, closed, 10, ⟨2, 0, l⟩, bye⟩
theorem put_wk (l : List It) (i : Int) (h : sdB (lnS i) = true) : AR.put ⟨2, 0, l⟩ (liS i) = if l.length < 2 then (⟨2, 0, l ++ [liS i]⟩, 0, 0) else match l.findIdx? p34 with
 | some j => (⟨2, 1, l.eraseIdx j ++ [liS i]⟩, 1, 0)
 | none => (⟨2, 0, l⟩, 0, 350) := by
 have h1 : ¬ 1024 < (liS i).bytes.length := by
  have := raw_len (lnS i) h; show ¬ 1024 < (rawS (lnS i)).length
  omega
 have h2 : l.findIdx? (p33 (liS i)) = none := by
  rw [List.findIdx?_eq_none_iff]; intro x hx; simp [p33, liS]
 unfold AR.put; rw [if_neg (by simp [liS]), if_neg h1]; dsimp only; rw [h2]; dsimp only; rfl
theorem wk_offer (next sent acked heard : Int) (l : List It) (i : Int) (h : sdB (lnS i) = true) (hl : l.length < 2) (hn : i = next) :
 (wkS next sent acked heard false l none).offer i joinE [] = (wkS (next + 1) sent acked heard false (l ++ [liS i]) none, 0) := by
 have hp := put_wk l i h; rw [if_pos hl] at hp; have hp2 : AR.put (wkS next sent acked heard false l none).ring ⟨false, 0, rawS (lineS i joinE [])⟩ = (⟨2, 0, l ++ [liS i]⟩, 0, 0) := hp; unfold Ss.offer; rw [if_neg (by rw [show sdB (lineS i joinE []) = true from h]; simp), if_neg (by simp [wkS]), if_neg (by simp [wkS, hn]), hp2, if_neg (by simp)]; rfl
theorem wk_over (next sent acked heard : Int) (l : List It) (i : Int) (h : sdB (lnS i) = true) (hl : ¬ l.length < 2) (hs : ∀ x ∈ l, x.side = false) (hn : i = next) :
 (wkS next sent acked heard false l none).offer i joinE [] = (wkS next sent acked heard false l none, 350) := by
 have hp := put_wk l i h
 have h2 : l.findIdx? p34 = none := by
  rw [List.findIdx?_eq_none_iff]; intro x hx; simp [p34, hs x hx]
 rw [if_neg hl, h2] at hp; have hp2 : AR.put (wkS next sent acked heard false l none).ring ⟨false, 0, rawS (lineS i joinE [])⟩ = (⟨2, 0, l⟩, 0, 350) := hp; unfold Ss.offer; rw [if_neg (by rw [show sdB (lineS i joinE []) = true from h]; simp), if_neg (by simp [wkS]), if_neg (by simp [wkS, hn]), hp2, if_pos (by simp)]; rfl
theorem wk_turn (next sent acked heard : Int) (l : List It) (i : Int) (h : sdB (lnS i) = true) (hn : i ≠ next) :
 (wkS next sent acked heard false l none).offer i joinE [] = (wkS next sent acked heard false l none, 320) := by
 unfold Ss.offer; rw [if_neg (by rw [show sdB (lineS i joinE []) = true from h]; simp), if_neg (by simp [wkS]), if_pos (by simpa [wkS] using hn)]
theorem wk_take (next sent acked heard : Int) (l : List It) (i : Int) (h : ¬ sent - acked ≥ 2) :
 (wkS next sent acked heard false (liS i :: l) none).take = (wkS next (sent + 1) acked heard false l none, some (rawS (lnS i))) := by
 have hw : (wkS next sent acked heard false (liS i :: l) none).waits = false := by
  show (!false && decide (sent - acked ≥ ((2 : Nat) : Int))) = false
  simpa using h
 unfold Ss.take; rw [if_neg (by simp [wkS]), if_neg (by rw [hw]; simp)]; rfl
theorem wk_waits (next sent acked heard : Int) (l : List It) (i : Int) (h : sent - acked ≥ 2) :
 (wkS next sent acked heard false (liS i :: l) none).take = (wkS next sent acked heard false (liS i :: l) none, none) := by
 have hw : (wkS next sent acked heard false (liS i :: l) none).waits = true := by
  show (!false && decide (sent - acked ≥ ((2 : Nat) : Int))) = true
  simpa using h
 unfold Ss.take; rw [if_neg (by simp [wkS]), if_pos hw]
theorem taken_line (s : Ss) (x : Sd) (h : sdB x = true) (hk : x.kind = 9) (ht : s.take.2 = some (rawS x)) : takenL s = x.index := by
 have h1 := readL_app x h []; rw [List.append_nil] at h1; unfold takenL; rw [ht]; simp only [Option.isSome_some, Option.getD_some]; rw [show readL (rawS x) = _ from h1]; simp [hk]
theorem taken_other (s : Ss) (x : Sd) (h : sdB x = true) (hk : x.kind ≠ 9) (ht : s.take.2 = some (rawS x)) : takenL s = -2 := by
 have h1 := readL_app x h []; rw [List.append_nil] at h1; unfold takenL; rw [ht]; simp only [Option.isSome_some, Option.getD_some]; rw [show readL (rawS x) = _ from h1]; simp [hk]
theorem taken_none (s : Ss) (ht : s.take.2 = none) : takenL s = -1 := by
 unfold takenL; rw [ht]; simp
def wkA : Ss := wkS 5 5 5 0 false [] none
def wkB : Ss := wkS 6 5 5 0 false [liS 5] none
def wkC : Ss := wkS 7 5 5 0 false [liS 5, liS 6] none
def wkD : Ss := wkS 7 6 5 0 false [liS 6] none
def wkE : Ss := wkS 7 7 5 0 false [] none
def wkF : Ss := wkS 8 7 5 0 false [liS 7] none
def wkG : Ss := wkS 8 7 6 1 false [liS 7] none
def wkH : Ss := wkS 8 8 6 1 false [] none
def wkI : Ss := wkS 8 8 6 1 true [] (some (rawS (byeS 0)))
def wkJ : Ss := wkS 8 8 6 1 true [] none
theorem wk_new : newS 3 1 5 (2 : Int).toNat 10 0 = wkA := rfl
theorem wk_newOk : newOk 3 1 5 2 10 0 = true := by decide
theorem wk1 : wkA.offer 5 joinE [] = (wkB, 0) := wk_offer 5 5 5 0 [] 5 sd_a (by simp) rfl
theorem wk2 : wkB.offer 6 joinE [] = (wkC, 0) := wk_offer 6 5 5 0 [liS 5] 6 sd_b (by simp) rfl
theorem wk3 : wkC.offer 7 joinE [] = (wkC, 350) := wk_over 7 5 5 0 [liS 5, liS 6] 7 sd_c (by simp) (by intro x hx; simp at hx; rcases hx with rfl | rfl <;> rfl) rfl
theorem wk4 : wkC.offer 9 joinE [] = (wkC, 320) := wk_turn 7 5 5 0 [liS 5, liS 6] 9 sd_d (by decide)
theorem wk5 : wkC.take = (wkD, some (rawS (lnS 5))) := wk_take 7 5 5 0 [liS 6] 5 (by decide)
theorem wk6 : wkD.take = (wkE, some (rawS (lnS 6))) := wk_take 7 6 5 0 [] 6 (by decide)
theorem wk7 : wkE.offer 7 joinE [] = (wkF, 0) := wk_offer 7 7 5 0 [] 7 sd_c (by simp) rfl
theorem wk8 : wkF.take = (wkF, none) := wk_waits 8 7 5 0 [] 7 (by decide)
theorem wk9 : wkF.ack 6 1 = (wkG, 0) := rfl
theorem wk10 : wkG.take = (wkH, some (rawS (lnS 7))) := wk_take 8 7 6 1 [] 7 (by decide)
theorem wk11 : wkH.silent 10 = false := rfl
theorem wk12 : wkH.silent 11 = true := rfl
theorem wk13 : wkH.close 0 = (wkI, 0) := rfl
theorem wk14 : wkI.take = (wkJ, some (rawS (byeS 0))) := rfl
theorem wk15 : wkJ.take = (wkJ, none) := rfl
theorem wk16 : wkJ.hear 12 = (wkJ, 360) := rfl
theorem wt5 : takenL wkC = 5 := taken_line wkC (lnS 5) sd_a rfl (by rw [wk5])
theorem wt6 : takenL wkD = 6 := taken_line wkD (lnS 6) sd_b rfl (by rw [wk6])
theorem wt8 : takenL wkF = -1 := taken_none wkF (by rw [wk8])
theorem wt10 : takenL wkG = 7 := taken_line wkG (lnS 7) sd_c rfl (by rw [wk10])
theorem wt14 : takenL wkI = -2 := taken_other wkI (byeS 0) (sd_bye 0 (by decide)) (by decide) (by rw [wk14])
theorem wt15 : takenL wkJ = -1 := taken_none wkJ (by rw [wk15])
theorem okA : OkSs wkA 0 := wk_new ▸ (new_ok wk_newOk).1
theorem okB : OkSs wkB 1 := by have h := okA.offer 5 joinE []; rw [wk1] at h; exact h
theorem okC : OkSs wkC 2 := by have h := okB.offer 6 joinE []; rw [wk2] at h; exact h
theorem okD : OkSs wkD 2 := by have h := okC.take; rw [wk5] at h; exact h
theorem okE : OkSs wkE 2 := by have h := okD.take; rw [wk6] at h; exact h
theorem okF : OkSs wkF 3 := by have h := okE.offer 7 joinE []; rw [wk7] at h; exact h
theorem okG : OkSs wkG 3 := by have h := okF.ack 6 1; rw [wk9] at h; exact h
theorem okH : OkSs wkH 3 := by have h := okG.take; rw [wk10] at h; exact h
theorem okI : OkSs wkI 3 := by have h := okH.close 0; rw [wk13] at h; exact h
theorem okJ : OkSs wkJ 3 := by have h := okI.take; rw [wk14] at h; exact h
theorem Mem.step2 {F : Nat → Prop} {w0 w : World} {L : List Res} {r : Res} (h : Mem F w0 w (r :: L)) : ∃ A, r.p A w ∧ (∀ k, A k → F k ∨ w0.heap.size ≤ k) ∧ (∀ (r' : Res) (w' : World), Upd A w w' r' → Mem F w0 w' (r' :: L)) ∧ ∀ b t cs L2, Pick L (cellsR b t cs) L2 → ¬ A b := by
 obtain ⟨a, G, ⟨A, B, h1, h2, h3, h4⟩, c⟩ := h; have hA := fun k hk => c k ((h4 k).2 (.inl hk))
 refine ⟨A, h1, hA, fun r' w' ⟨A', u1, u2, u3⟩ => ?_, fun b t cs L2 p hb => ?_⟩
 · have hB := fun k hk => c k ((h4 k).2 (.inr hk))
   have hlt := h2.lt; refine ⟨a.then u2 fun i hi h => ?_, fun k => A' k ∨ B k, ⟨A', B, u1, h2.keeps u2 fun k hk hA' => h3 k hA' hk, fun k h5 h6 => ?_, fun k => Iff.rfl⟩, fun k hk => ?_⟩
   · rcases hA i h with h | h
     · exact h
     · omega
   · rcases u3 k h5 with h | h
     · exact h3 k h h6
     · have := hlt k h6; omega
   · rcases hk with hk | hk
     · rcases u3 k hk with h | h
       · exact hA k h
       · have := a.size; exact .inr (by omega)
     · exact hB k hk
 · obtain ⟨C, D, g1, g2, g3, g4⟩ := p.sep h2
   exact h3 b hb ((g4 b).2 (.inl ((g1.1 b).2 rfl)))
theorem infoEnt : (Tryz.prog.info? 35).map (·.size) = some 4 := by kernel_rfl
theorem works_any (w : World) (hT : Tabs w) : Calls Tryz.prog 22 #[] w fun e w' => e = .returned (.bool true) ∧ Ext w w' := by
 have HM := Hd (Mem.start0 w); have HX := Hd (show TabX NoB w from ⟨hT, noB _, noB _⟩); clear hT; go_enter Tryz.func22, Tryz.ntmps22
 have fM := HM.out.fa; go_wp2_with fail; all_goals clear fM
 obtain ⟨k1, hk1⟩ : ∃ k, w.heap.size = k := ⟨_, rfl⟩; refine nxt HM fun w1 M => ?_
 replace HM := M; clear M; rw [hk1] at HM ⊢; clear hk1; refine (snew_yes w1 3 1 5 2 10 0 wk_newOk).mono ?_; rintro e w2 ⟨sb, rfl, hU⟩; rw [wk_new] at hU; replace HM := Hd (HM.out.newU hU); clear hU; have fM := HM.out.fa; go_wp2_with fail; all_goals clear fM
 refine nxt HM fun w3 M => ?_
 replace HM := M; clear M; obtain ⟨_, hBk⟩ := HM.out.get (r := cellsR k1 35 [.int .i64 2, .int .i64 1, .int .i64 0, .string ⟨#[]⟩]) pk; have HBO := Hd hBk.2; clear hBk; have fM := HM.out.fa; have hE0 : Keeps (fun k => ¬ k = k1) w3 w3.drew := (Keeps.refl _ _).drew; refine rgK (fun k => ¬ k = k1) [(0, 0), (3, 1), (0, 3), (1, 4), (0, 6), (1, 7), (0, 9), (1, 10), (2, 2), (2, 5), (2, 8)] [4, 7, 10] [2, 5, 8, 11, 12, 13, 14, 15] [11, 12, 13, 14, 15] ?_ (hp := (plan3 [0, 0, 3, 0, 0, 31, 0, 0, 255, 0, 0, 2047, 4095, 8191, 16383, 32767] (by kernel_rfl) rfl (by kernel_rfl))); simp only [planL, nL]; refine pM _ rfl rfl ?_; simp only [nP, nE]; refine pX (v := .agg #[.int .i64 2, .int .i64 1, .int .i64 0, .string ⟨#[]⟩]) rfl (elB 35 _ rfl rfl (HBO.out.ext (Ext.drew0 w3)) Tryz.underlying35 rfl infoEnt) ?_; simp only [nP]; refine pM _ rfl rfl ?_; simp only [nP, nE]; refine pK (v := .agg #[.int .i64 2, .int .i64 1, .int .i64 0, .string ⟨#[]⟩]) rfl (fun y => elB 35 _ rfl rfl (HBO.out.keeps y.h (fun h => h rfl)) Tryz.underlying35 rfl infoEnt) ?_; simp only [nP]; refine pM _ rfl rfl ?_; simp only [nP, nE]; refine pK (v := .agg #[.int .i64 2, .int .i64 1, .int .i64 0, .string ⟨#[]⟩]) rfl (fun y => elB 35 _ rfl rfl (HBO.out.keeps y.h (fun h => h rfl)) Tryz.underlying35 rfl infoEnt) ?_; simp only [nP]; refine pM _ rfl rfl ?_; simp only [nP, nE]; refine pK (v := .agg #[.int .i64 2, .int .i64 1, .int .i64 0, .string ⟨#[]⟩]) rfl (fun y => elB 35 _ rfl rfl (HBO.out.keeps y.h (fun h => h rfl)) Tryz.underlying35 rfl infoEnt) ?_; simp only [nP]; refine plan_does rfl (fun K hK => ?_); go_wp2_with fail; replace HM := Hd HM.out.drew; obtain ⟨A', hA', hAF, hZ, hblk⟩ := (HM.out.pick (r := sesR sb wkA) pk).step2; have hn := hblk k1 _ _ _ (by with_reducible repeat first | exact ph | apply pt); refine (offer_any w3.drew sb wkA 0 okA (by decide) 5 joinE [] (by unfold I64 joinE; decide) (by decide) (by decide) hA' (tabX_ok.step HX.out HM.out.keepsTo hAF)).mono ?_; rintro r wz ⟨rfl, hU⟩; rw [wk1] at hU ⊢; have hE1 := hE0.then hU.keepsTo (fun i _ h e => hn (e ▸ h)); replace HM := Hd (hZ _ _ hU); clear hA' hAF hZ hblk hn hU; clear A'; refine hK _ _ ⟨ClsK.of (by assumption), ?_⟩; clear hK K; try simp only [nP]
 refine plan_does rfl (fun K hK => ?_); go_wp2_with fail; skip
 obtain ⟨A', hA', hAF, hZ, hblk⟩ := (HM.out.pick (r := sesR sb wkB) pk).step2; have hn := hblk k1 _ _ _ (by with_reducible repeat first | exact ph | apply pt); refine (offer_any _ sb wkB 1 okB (by decide) 6 joinE [] (by unfold I64 joinE; decide) (by decide) (by decide) hA' (tabX_ok.step HX.out HM.out.keepsTo hAF)).mono ?_; rintro r wz ⟨rfl, hU⟩; rw [wk2] at hU ⊢; have hE2 := hE1.then hU.keepsTo (fun i _ h e => hn (e ▸ h)); replace HM := Hd (hZ _ _ hU); clear hA' hAF hZ hblk hn hU; clear A'; refine hK _ _ ⟨ClsK.of (by assumption), ?_⟩; clear hK K; try simp only [nP]
 refine plan_does rfl (fun K hK => ?_); go_wp2_with fail; skip
 obtain ⟨A', hA', hAF, hZ, hblk⟩ := (HM.out.pick (r := sesR sb wkC) pk).step2; have hn := hblk k1 _ _ _ (by with_reducible repeat first | exact ph | apply pt); refine (offer_any _ sb wkC 2 okC (by decide) 7 joinE [] (by unfold I64 joinE; decide) (by decide) (by decide) hA' (tabX_ok.step HX.out HM.out.keepsTo hAF)).mono ?_; rintro r wz ⟨rfl, hU⟩; rw [wk3] at hU ⊢; have hE3 := hE2.then hU.keepsTo (fun i _ h e => hn (e ▸ h)); replace HM := Hd (hZ _ _ hU); clear hA' hAF hZ hblk hn hU; clear A'; refine hK _ _ ⟨ClsK.of (by assumption), ?_⟩; clear hK K; try simp only [nP]
 refine plan_nil ?_; simp only [tailL, List.filterMap_cons, List.filterMap_nil, nL]; change wpList _ _ _ (_ :: _ :: _ :: _ :: _ :: []) _ _; go_wp2_with fail; skip
 obtain ⟨A', hA', hAF, hZ, hblk⟩ := (HM.out.pick (r := sesR sb wkC) pk).step2; have hn := hblk k1 _ _ _ (by with_reducible repeat first | exact ph | apply pt); refine (offer_any _ sb wkC 2 okC (by decide) 9 joinE [] (by unfold I64 joinE; decide) (by decide) (by decide) hA' (tabX_ok.step HX.out HM.out.keepsTo hAF)).mono ?_; rintro r wz ⟨rfl, hU⟩; rw [wk4] at hU ⊢; have hE4 := hE3.then hU.keepsTo (fun i _ h e => hn (e ▸ h)); replace HM := Hd (hZ _ _ hU); clear hA' hAF hZ hblk hn hU; clear A'; clear fM; clear hE0 hE1 hE2 hE3 hE4; have fM := HM.out.fa; go_wp2_with fail; all_goals clear fM
 refine nxt HM fun w5 M => ?_
 replace HM := M; clear M; obtain ⟨A', hA', hAF, hZ, hblk⟩ := (HM.out.pick (r := sesR sb wkC) pk).step2; refine (staken_any w5 sb wkC 2 okC hA' (tabX_ok.step HX.out HM.out.keepsTo hAF)).mono ?_; rintro r wz ⟨rfl, hU⟩; rw [wt5]; rw [wk5] at hU; replace HM := Hd (hZ _ _ hU); clear hA' hAF hZ hblk hU; clear A'; have fM := HM.out.fa; go_wp2_with fail; all_goals clear fM
 refine nxt HM fun w6 M => ?_
 replace HM := M; clear M; obtain ⟨A', hA', hAF, hZ, hblk⟩ := (HM.out.pick (r := sesR sb wkD) pk).step2; refine (staken_any w6 sb wkD 2 okD hA' (tabX_ok.step HX.out HM.out.keepsTo hAF)).mono ?_; rintro r wz ⟨rfl, hU⟩; rw [wt6]; rw [wk6] at hU; replace HM := Hd (hZ _ _ hU); clear hA' hAF hZ hblk hU; clear A'; have fM := HM.out.fa; go_wp2_with fail; all_goals clear fM
 refine nxt HM fun w7 M => ?_
 replace HM := M; clear M; obtain ⟨A', hA', hAF, hZ, hblk⟩ := (HM.out.pick (r := sesR sb wkE) pk).step2; refine (offer_any w7 sb wkE 2 okE (by decide) 7 joinE [] (by unfold I64 joinE; decide) (by decide) (by decide) hA' (tabX_ok.step HX.out HM.out.keepsTo hAF)).mono ?_; rintro r wz ⟨rfl, hU⟩; rw [wk7] at hU ⊢; replace HM := Hd (hZ _ _ hU); clear hA' hAF hZ hblk hU; clear A'; have fM := HM.out.fa; go_wp2_with fail; all_goals clear fM
 refine nxt HM fun w8 M => ?_
 replace HM := M; clear M; obtain ⟨A', hA', hAF, hZ, hblk⟩ := (HM.out.pick (r := sesR sb wkF) pk).step2; refine (staken_any w8 sb wkF 3 okF hA' (tabX_ok.step HX.out HM.out.keepsTo hAF)).mono ?_; rintro r wz ⟨rfl, hU⟩; rw [wt8]; rw [wk8] at hU; replace HM := Hd (hZ _ _ hU); clear hA' hAF hZ hblk hU; clear A'; have fM := HM.out.fa; go_wp2_with fail; all_goals clear fM
 refine nxt HM fun w9 M => ?_
 replace HM := M; clear M; obtain ⟨A', hA', hAF, hZ, hblk⟩ := (HM.out.pick (r := sesR sb wkF) pk).step2; refine (ack_any w9 sb wkF 6 1 hA').mono ?_; rintro r wz ⟨rfl, hU⟩; rw [wk9] at hU ⊢; replace HM := Hd (hZ _ _ hU); clear hA' hAF hZ hblk hU; clear A'; have fM := HM.out.fa; go_wp2_with fail; all_goals clear fM
 refine nxt HM fun w10 M => ?_
 replace HM := M; clear M; obtain ⟨A', hA', hAF, hZ, hblk⟩ := (HM.out.pick (r := sesR sb wkG) pk).step2; refine (staken_any w10 sb wkG 3 okG hA' (tabX_ok.step HX.out HM.out.keepsTo hAF)).mono ?_; rintro r wz ⟨rfl, hU⟩; rw [wt10]; rw [wk10] at hU; replace HM := Hd (hZ _ _ hU); clear hA' hAF hZ hblk hU; clear A'; have fM := HM.out.fa; go_wp2_with fail; all_goals clear fM
 refine nxt HM fun w11 M => ?_
 replace HM := M; clear M; obtain ⟨Ahs, hs⟩ := HM.out.get (r := sesR sb wkH) pk; refine (silent_any w11 sb wkH 10 hs (by decide) (by unfold I64; decide)).mono ?_; rintro r wz ⟨rfl, hE⟩; rw [wk11]; replace HM := Hd (HM.out.ext hE); clear hE hs; have fM := HM.out.fa; go_wp2_with fail; all_goals clear fM
 refine nxt HM fun w12 M => ?_
 replace HM := M; clear M; obtain ⟨Ahs, hs⟩ := HM.out.get (r := sesR sb wkH) pk; refine (silent_any w12 sb wkH 11 hs (by decide) (by unfold I64; decide)).mono ?_; rintro r wz ⟨rfl, hE⟩; rw [wk12]; replace HM := Hd (HM.out.ext hE); clear hE hs; have fM := HM.out.fa; go_wp2_with fail; all_goals clear fM
 refine nxt HM fun w13 M => ?_
 replace HM := M; clear M; obtain ⟨A', hA', hAF, hZ, hblk⟩ := (HM.out.pick (r := sesR sb wkH) pk).step2; refine (close_any w13 sb wkH 0 hA' (tabX_ok.step HX.out HM.out.keepsTo hAF)).mono ?_; rintro r wz ⟨rfl, hU⟩; rw [wk13] at hU ⊢; replace HM := Hd (hZ _ _ hU); clear hA' hAF hZ hblk hU; clear A'; have fM := HM.out.fa; go_wp2_with fail; all_goals clear fM
 refine nxt HM fun w14 M => ?_
 replace HM := M; clear M; obtain ⟨A', hA', hAF, hZ, hblk⟩ := (HM.out.pick (r := sesR sb wkI) pk).step2; refine (staken_any w14 sb wkI 3 okI hA' (tabX_ok.step HX.out HM.out.keepsTo hAF)).mono ?_; rintro r wz ⟨rfl, hU⟩; rw [wt14]; rw [wk14] at hU; replace HM := Hd (hZ _ _ hU); clear hA' hAF hZ hblk hU; clear A'; have fM := HM.out.fa; go_wp2_with fail; all_goals clear fM
 refine nxt HM fun w15 M => ?_
 replace HM := M; clear M; obtain ⟨A', hA', hAF, hZ, hblk⟩ := (HM.out.pick (r := sesR sb wkJ) pk).step2; refine (staken_any w15 sb wkJ 3 okJ hA' (tabX_ok.step HX.out HM.out.keepsTo hAF)).mono ?_; rintro r wz ⟨rfl, hU⟩; rw [wt15]; rw [wk15] at hU; replace HM := Hd (hZ _ _ hU); clear hA' hAF hZ hblk hU; clear A'; have fM := HM.out.fa; go_wp2_with fail; all_goals clear fM
 refine cret (snum_any _ _) ?_; have fM := HM.out.fa; go_wp2_with fail; all_goals clear fM
 refine cret (snum_any _ _) ?_; have fM := HM.out.fa; go_wp2_with fail; all_goals clear fM
 refine cret (snum_any _ _) ?_; have fM := HM.out.fa; go_wp2_with fail; all_goals clear fM
 refine cret (snum_any _ _) ?_; have fM := HM.out.fa; go_wp2_with fail; all_goals clear fM
 refine cret (snum_any _ _) ?_; have fM := HM.out.fa; go_wp2_with fail; all_goals clear fM
 refine cret (snum_any _ _) ?_; have fM := HM.out.fa; go_wp2_with fail; all_goals clear fM
 refine cret (snum_any _ _) ?_; have fM := HM.out.fa; go_wp2_with fail; all_goals clear fM
 refine cret (snum_any _ _) ?_; have fM := HM.out.fa; go_wp2_with fail; all_goals clear fM
 refine nxt HM fun w16 M => ?_
 replace HM := M; clear M; obtain ⟨A', hA', hAF, hZ, hblk⟩ := (HM.out.pick (r := sesR sb wkJ) pk).step2; refine (hear_any w16 sb wkJ 12 hA').mono ?_; rintro r wz ⟨rfl, hU⟩; rw [wk16] at hU ⊢; replace HM := Hd (hZ _ _ hU); clear hA' hAF hZ hblk hU; clear A'; have fM := HM.out.fa; go_wp2_with fail; all_goals clear fM
 refine cret (snum_any _ _) ?_; have fM := HM.out.fa; go_wp2_with fail; all_goals clear fM
 go_ret; exact ⟨rfl, HM.out.extTo⟩
theorem Scs.keeps {S : Nat → Prop} {w w' : World} {A : Nat → Prop} {v : Value} {ls : List Sc} (h : Scs w A v ls) (e : Keeps S w w') (hs : ∀ k, A k → ¬ S k) : Scs w' A v ls := by
 rcases h with ⟨a, h1, h2⟩ | ⟨b, o, c, h1, h2, h3, h4⟩
 · exact .inl ⟨a, h1, h2⟩
 · refine .inr ⟨b, o, c, h1, h2, h3, fun i hi => ?_⟩
   obtain ⟨cs, ⟨e1, e2⟩, e4, e5⟩ := h4 i hi; refine ⟨cs, ⟨e1, e2⟩, e4, fun j hj => ?_⟩; have h5 := e5 j hj; have h6 : cs[j]? = some (cs[j]'(by rw [e4]; exact hj)) := List.getElem?_eq_getElem _; rw [h6] at h5 ⊢; exact e.cell (hs b h3) h5
theorem Scs.ext {w w' : World} {A : Nat → Prop} {v : Value} {ls : List Sc} (h : Scs w A v ls) (e : Ext w w') : Scs w' A v ls := h.keeps e fun _ _ => noB _
theorem Scs.ok {w : World} {A : Nat → Prop} {a : Option Addr} {n c : Nat} {ls : List Sc} (h : Scs w A (.slice a n c) ls) (i : Nat) (hi : i < ls.length) : OkSc ls[i] := let ⟨_, _, _, _, _, h, _⟩ := h.at i hi; h
theorem Scs.ld {w : World} {A : Nat → Prop} {g o n c : Nat} {ls : List Sc} (h : Scs w A (.slice (some ⟨g, o, none⟩) n c) ls) (i : Nat) (hi : i < ls.length) : (Instr.loadAt 79 (.pointer (some ⟨g, o + i * 19, none⟩))).run Tryz.prog w = .ok (.agg ls[i].cells.toArray) w := by
 obtain ⟨g', o', h1, -, -, -, h2⟩ := h.at i hi; cases h1
 exact sc_load h2
theorem Scs.adr {w : World} {A : Nat → Prop} {a : Option Addr} {n c : Nat} {ls : List Sc} (h : Scs w A (.slice a n c) ls) (i : Nat) (hi : i < ls.length) : ∃ g o, a = some ⟨g, o, none⟩ := let ⟨g, o, h, _⟩ := h.at i hi; ⟨g, o, h⟩
def fewS (ls : List Sc) (most : Int) : Bool := (ls.all fun x => !longS x) && decide ((ls.length : Int) ≤ most)
theorem fewS.short {ls : List Sc} {most : Int} (h : fewS ls most = true) (i : Nat) (hi : i < ls.length) : ShortSc ls[i] := by
 unfold fewS at h; rw [Bool.and_eq_true] at h; have h1 := List.all_eq_true.1 h.1 _ (List.getElem_mem hi); exact short_of (by simpa using h1)
theorem fewS.len {ls : List Sc} {most : Int} (h : fewS ls most = true) : (ls.length : Int) ≤ most := by
 unfold fewS at h; rw [Bool.and_eq_true] at h; simpa using h.2
theorem acts_snoc (s : Ss) (ls : List Sc) (k : Nat) (hk : k < ls.length) : s.acts (ls.take (k + 1)) = (s.acts (ls.take k)).act ls[k] := by
 rw [List.take_succ_eq_append_getElem hk]; unfold Ss.acts; rw [List.foldl_append]; rfl
theorem OkSs.its6 {s : Ss} {n : Nat} (h : OkSs s n) : ∀ x ∈ s.ring.items, x.bytes.length ≤ 1000000 := fun x hx => Nat.le_trans (h.its x hx) (by decide)
theorem OkSs.len3 {s : Ss} {n : Nat} (h : OkSs s n) : s.ring.items.length ≤ 1000 := by have := h.len; have := h.most; omega
theorem few_s {A : Nat → Prop} (w : World) (v : Value) (ls : List Sc) (most : Int) (h : Scs w A v ls) (hl : ls.length ≤ 9223372036854775807) :
 Calls Tryz.prog 21 #[v, .int .i64 most] w fun e w' => e = .returned (.bool (fewS ls most)) ∧ Ext w w' := few_any w v ls most h hl

theorem act_d (s : Ss) (x : Sc) (h : x.what = 0) : s.act x = (s.offer (s.next + nearI x.index) x.e x.token).1 := by unfold Ss.act; rw [h]; rfl
theorem act_e (s : Ss) (x : Sc) (h : x.what = 1) : s.act x = (s.reach (s.next + nearI x.index)).1 := by unfold Ss.act; rw [h]; rfl
theorem act_f (s : Ss) (x : Sc) (h : x.what = 2) : s.act x = (s.beside x.said).1 := by unfold Ss.act; rw [h]; rfl
theorem act_h (s : Ss) (x : Sc) (h : x.what = 4) : s.act x = (s.ack (s.acked + nearI x.index) (s.heard + nearI x.now)).1 := by unfold Ss.act; rw [h]; rfl
theorem act_i (s : Ss) (x : Sc) (h : x.what = 5) : s.act x = (s.hear (s.heard + nearI x.now)).1 := by unfold Ss.act; rw [h]; rfl
theorem act_j (s : Ss) (x : Sc) (h : x.what = 6) : s.act x = (s.close x.index).1 := by unfold Ss.act; rw [h]; rfl
theorem act_g (s : Ss) (x : Sc) (h : x.what = 3) : s.act x = s.take.1 := by unfold Ss.act; rw [h]; rfl
theorem act_k (s : Ss) (x : Sc) (h0 : ¬ x.what = 0) (h1 : ¬ x.what = 1) (h2 : ¬ x.what = 2) (h3 : ¬ x.what = 3) (h4 : ¬ x.what = 4) (h5 : ¬ x.what = 5) (h6 : ¬ x.what = 6) : s.act x = s := by
 unfold Ss.act; rw [if_neg h0, if_neg h1, if_neg h2, if_neg h3, if_neg h4, if_neg h5, if_neg h6]
theorem offer_sent (s : Ss) (i : Int) (e : En) (t : List UInt8) : (s.offer i e t).1.sent = s.sent ∧ (s.offer i e t).1.ring.most = s.ring.most := by
 unfold Ss.offer; split
 · exact ⟨rfl, rfl⟩
 split
 · exact ⟨rfl, rfl⟩
 split
 · exact ⟨rfl, rfl⟩
 split
 · exact ⟨rfl, rfl⟩
 exact ⟨rfl, put_most _ _⟩
theorem reach_sent (s : Ss) (i : Int) : (s.reach i).1.sent = s.sent ∧ (s.reach i).1.ring.most = s.ring.most := by
 unfold Ss.reach; split
 · exact ⟨rfl, rfl⟩
 split
 · exact ⟨rfl, rfl⟩
 exact ⟨rfl, rfl⟩
theorem beside_sent (s : Ss) (x : Sd) : (s.beside x).1.sent = s.sent ∧ (s.beside x).1.ring.most = s.ring.most := by
 unfold Ss.beside; split
 · exact ⟨rfl, rfl⟩
 split
 · exact ⟨rfl, rfl⟩
 exact ⟨rfl, put_most _ _⟩
theorem ack_sent (s : Ss) (i now : Int) : (s.ack i now).1.sent = s.sent ∧ (s.ack i now).1.ring.most = s.ring.most := by
 unfold Ss.ack; split
 · exact ⟨rfl, rfl⟩
 split
 · exact ⟨rfl, rfl⟩
 exact ⟨rfl, rfl⟩
theorem hear_sent (s : Ss) (now : Int) : (s.hear now).1.sent = s.sent ∧ (s.hear now).1.ring.most = s.ring.most := by
 unfold Ss.hear; split
 · exact ⟨rfl, rfl⟩
 split
 · exact ⟨rfl, rfl⟩
 exact ⟨rfl, rfl⟩
theorem close_sent (s : Ss) (why : Int) : (s.close why).1.sent = s.sent ∧ (s.close why).1.ring.most = s.ring.most := by
 unfold Ss.close; split
 · exact ⟨rfl, rfl⟩
 split
 · exact ⟨rfl, rfl⟩
 exact ⟨rfl, rfl⟩
theorem take_most (s : Ss) : s.take.1.ring.most = s.ring.most := by
 unfold Ss.take; repeat (first | exact rfl | split)
theorem act_most (s : Ss) (x : Sc) : (s.act x).ring.most = s.ring.most := by
 by_cases h0 : x.what = 0
 · rw [act_d s x h0]; exact (offer_sent _ _ _ _).2
 by_cases h1 : x.what = 1
 · rw [act_e s x h1]; exact (reach_sent _ _).2
 by_cases h2 : x.what = 2
 · rw [act_f s x h2]; exact (beside_sent _ _).2
 by_cases h3 : x.what = 3
 · rw [act_g s x h3]; exact take_most _
 by_cases h4 : x.what = 4
 · rw [act_h s x h4]; exact (ack_sent _ _ _).2
 by_cases h5 : x.what = 5
 · rw [act_i s x h5]; exact (hear_sent _ _).2
 by_cases h6 : x.what = 6
 · rw [act_j s x h6]; exact (close_sent _ _).2
 rw [act_k s x h0 h1 h2 h3 h4 h5 h6]
theorem acts_most (l : List Sc) : ∀ s : Ss, (s.acts l).ring.most = s.ring.most := by
 induction l with
 | nil => exact fun s => rfl
 | cons x l ih => exact fun s => (ih (s.act x)).trans (act_most s x)
def tenE : Enc En := ⟨En.cells, 4, fun _ => rfl, fun x u hu => by
 simp only [En.cells, List.mem_cons, List.not_mem_nil, or_false] at hu; rcases hu with rfl | rfl | rfl | rfl <;> rfl⟩
theorem infoTen : (Tryz.prog.info? 35).map (fun i => (i.zero, i.size, i.bytes)) = some (some (.agg #[.int .i64 0, .int .i64 0, .int .i64 0, .string ⟨#[]⟩]), 4, 40) := by kernel_rfl
theorem add_ten {F : Nat → Prop} {w0 w : World} {L : List Res} {v : Value} {l : List En} (ty : TypeId) (h : Mem F w0 w (rowR tenE v l :: L)) (b c : Nat) (x : En) (hb : ∀ o, w.cell? ⟨b, o, none⟩ = (tenE.cells x)[o]?) (hl : l.length < 1000000) :
 ∃ v' w', (Builtin.append_ #[39, 39] ty #[v, .slice (some ⟨b, 0, none⟩) 1 c]).run Tryz.prog w = .ok v' w' ∧ Mem F w0 w' (rowR tenE v' (l ++ [x]) :: L) := by
 obtain ⟨i0, hi, hz0, hz1, hz2⟩ := info_parts infoTen; exact Mem.rowAdd 39 39 ty 35 i0 _ 40 Tryz.underlying39 Tryz.underlying39 hi hz0 hz1 hz2 rfl h b c x hb (by simp [maxLen]; omega) (by omega)
theorem ne_ten (x : En) (w : World) : (binOp .neq 35 (.agg #[.int .i64 x.kind, .int .i64 x.member, .int .i64 x.number, .string (bs x.text)]) (.agg #[.int .i64 x.kind, .int .i64 x.member, .int .i64 x.number, .string (bs x.text)])).run Tryz.prog w = .ok (.bool false) w := by
 go_simp
theorem ld_i64 (w : World) (b k : Nat) (n : Int) (h : w.cell? ⟨b, k, none⟩ = some (.int .i64 n)) : (Instr.loadAt 2 (.pointer (some ⟨b, k, none⟩))).run Tryz.prog w = .ok (.int .i64 n) w := by simp [go_sem, h]
theorem ld_str (w : World) (b k : Nat) (s : ByteArray) (h : w.cell? ⟨b, k, none⟩ = some (.string s)) : (Instr.loadAt 9 (.pointer (some ⟨b, k, none⟩))).run Tryz.prog w = .ok (.string s) w := by simp [go_sem, h]
theorem ld_en (w : World) (b k : Nat) (e : En) (h : ∀ j, j < 4 → w.cell? ⟨b, k + j, none⟩ = e.cells[j]?) : (Instr.loadAt 35 (.pointer (some ⟨b, k, none⟩))).run Tryz.prog w = .ok (.agg e.cells.toArray) w :=
 run_loadAt_mid w b k 35 e.cells _ (fun j v hv => by
  have hj : j < 4 := (List.getElem?_eq_some_iff.1 hv).1; have h1 := h j hj; rw [hv] at h1; exact h1) Tryz.underlying35 rfl infoEnt
theorem en_keeps {S : Nat → Prop} {w w' : World} {b k : Nat} {e : En} (h : Keeps S w w') (hs : ¬ S b) (hc : ∀ j, j < 4 → w.cell? ⟨b, k + j, none⟩ = e.cells[j]?) (j : Nat) (hj : j < 4) : w'.cell? ⟨b, k + j, none⟩ = e.cells[j]? := by
 have h1 := hc j hj; have h2 : e.cells[j]? = some (e.cells[j]'(by exact hj)) := List.getElem?_eq_getElem _; rw [h2] at h1 ⊢; exact h.cell hs h1
theorem tells_get {off : List En} {e : En} {s fr : Int} (h0 : fr ≤ s) (h : off[(s - fr).toNat]? = some e) : ∃ j : Nat, s - fr = (j : Int) ∧ j < off.length ∧ off[j]? = some e := by
 refine ⟨(s - fr).toNat, by omega, ?_, h⟩; exact (List.getElem?_eq_some_iff.1 h).1
end Go.Proofs.YtoadjbgpfihoiaaGreatDoor
