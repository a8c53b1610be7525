/- Texts SWkP, SWorks, SBase, SRaws, SOpenB, one behind the other. Conditions: as each says. -/
import Derived.Test.YtoadjbgpfihoiaaGreatDoorRaZC
import Derived.BigGuardIn
set_option linter.unusedVariables false
set_option linter.unusedSimpArgs false
set_option maxHeartbeats 8000000
set_option maxRecDepth 100000
namespace Go.Proofs.YtoadjbgpfihoiaaGreatDoor
open Go.RowKit
section
def joinE : En := ⟨2, 1, 0, []⟩
def lnS (i : Int) : Sd := lineS i joinE []
def liS (i : Int) : It := ⟨false, 0, rawS (lnS i)⟩
theorem sd_a : sdB (lnS 5) = true := by decide +kernel
theorem sd_b : sdB (lnS 6) = true := by decide +kernel
theorem sd_c : sdB (lnS 7) = true := by decide +kernel
theorem sd_d : sdB (lnS 9) = true := by decide +kernel
def wkS (next sent acked heard : Int) (closed : Bool) (l : List It) (bye : Option (List UInt8)) : Ss := ⟨3, 1, next, sent, acked, heard, false, closed, 10, ⟨2, 0, l⟩, bye⟩
theorem put_wk (l : List It) (i : Int) (h : sdB (lnS i) = true) : AR.put ⟨2, 0, l⟩ (liS i) = if l.length < 2 then (⟨2, 0, l ++ [liS i]⟩, 0, 0) else match l.findIdx? p34 with
 | some j => (⟨2, 1, l.eraseIdx j ++ [liS i]⟩, 1, 0)
 | none => (⟨2, 0, l⟩, 0, 350) := by
 have h1 : ¬ 1024 < (liS i).bytes.length := by
  have := raw_len (lnS i) h
  show ¬ 1024 < (rawS (lnS i)).length
  omega
 have h2 : l.findIdx? (p33 (liS i)) = none := by
  rw [List.findIdx?_eq_none_iff]
  intro x hx
  simp [p33, liS]
 unfold AR.put
 rw [if_neg (by simp [liS]), if_neg h1]
 dsimp only
 rw [h2]
 dsimp only
 rfl
theorem wk_offer (next sent acked heard : Int) (l : List It) (i : Int) (h : sdB (lnS i) = true) (hl : l.length < 2) (hn : i = next) :
 (wkS next sent acked heard false l none).offer i joinE [] = (wkS (next + 1) sent acked heard false (l ++ [liS i]) none, 0) := by
 have hp := put_wk l i h
 rw [if_pos hl] at hp
 have hp2 : AR.put (wkS next sent acked heard false l none).ring ⟨false, 0, rawS (lineS i joinE [])⟩ = (⟨2, 0, l ++ [liS i]⟩, 0, 0) := hp
 unfold Ss.offer
 rw [if_neg (by rw [show sdB (lineS i joinE []) = true from h]; simp), if_neg (by simp [wkS]), if_neg (by simp [wkS, hn]), hp2, if_neg (by simp)]
 rfl
theorem wk_over (next sent acked heard : Int) (l : List It) (i : Int) (h : sdB (lnS i) = true) (hl : ¬ l.length < 2) (hs : ∀ x ∈ l, x.side = false) (hn : i = next) :
 (wkS next sent acked heard false l none).offer i joinE [] = (wkS next sent acked heard false l none, 350) := by
 have hp := put_wk l i h
 have h2 : l.findIdx? p34 = none := by
  rw [List.findIdx?_eq_none_iff]
  intro x hx
  simp [p34, hs x hx]
 rw [if_neg hl, h2] at hp
 have hp2 : AR.put (wkS next sent acked heard false l none).ring ⟨false, 0, rawS (lineS i joinE [])⟩ = (⟨2, 0, l⟩, 0, 350) := hp
 unfold Ss.offer
 rw [if_neg (by rw [show sdB (lineS i joinE []) = true from h]; simp), if_neg (by simp [wkS]), if_neg (by simp [wkS, hn]), hp2, if_pos (by simp)]
 rfl
theorem wk_turn (next sent acked heard : Int) (l : List It) (i : Int) (h : sdB (lnS i) = true) (hn : i ≠ next) :
 (wkS next sent acked heard false l none).offer i joinE [] = (wkS next sent acked heard false l none, 320) := by
 unfold Ss.offer
 rw [if_neg (by rw [show sdB (lineS i joinE []) = true from h]; simp), if_neg (by simp [wkS]), if_pos (by simpa [wkS] using hn)]
theorem wk_take (next sent acked heard : Int) (l : List It) (i : Int) (h : ¬ sent - acked ≥ 2) :
 (wkS next sent acked heard false (liS i :: l) none).take = (wkS next (sent + 1) acked heard false l none, some (rawS (lnS i))) := by
 have hw : (wkS next sent acked heard false (liS i :: l) none).waits = false := by
  show (!false && decide (sent - acked ≥ ((2 : Nat) : Int))) = false
  simpa using h
 unfold Ss.take
 rw [if_neg (by simp [wkS]), if_neg (by rw [hw]; simp)]
 rfl
theorem wk_waits (next sent acked heard : Int) (l : List It) (i : Int) (h : sent - acked ≥ 2) :
 (wkS next sent acked heard false (liS i :: l) none).take = (wkS next sent acked heard false (liS i :: l) none, none) := by
 have hw : (wkS next sent acked heard false (liS i :: l) none).waits = true := by
  show (!false && decide (sent - acked ≥ ((2 : Nat) : Int))) = true
  simpa using h
 unfold Ss.take
 rw [if_neg (by simp [wkS]), if_pos hw]
theorem taken_line (s : Ss) (x : Sd) (h : sdB x = true) (hk : x.kind = 9) (ht : s.take.2 = some (rawS x)) : takenL s = x.index := by
 have h1 := readL_app x h []
 rw [List.append_nil] at h1
 unfold takenL
 rw [ht]
 simp only [Option.isSome_some, Option.getD_some]
 rw [show readL (rawS x) = _ from h1]
 simp [hk]
theorem taken_other (s : Ss) (x : Sd) (h : sdB x = true) (hk : x.kind ≠ 9) (ht : s.take.2 = some (rawS x)) : takenL s = -2 := by
 have h1 := readL_app x h []
 rw [List.append_nil] at h1
 unfold takenL
 rw [ht]
 simp only [Option.isSome_some, Option.getD_some]
 rw [show readL (rawS x) = _ from h1]
 simp [hk]
theorem taken_none (s : Ss) (ht : s.take.2 = none) : takenL s = -1 := by
 unfold takenL
 rw [ht]
 simp
def wkA : Ss := wkS 5 5 5 0 false [] none
def wkB : Ss := wkS 6 5 5 0 false [liS 5] none
def wkC : Ss := wkS 7 5 5 0 false [liS 5, liS 6] none
def wkD : Ss := wkS 7 6 5 0 false [liS 6] none
def wkE : Ss := wkS 7 7 5 0 false [] none
def wkF : Ss := wkS 8 7 5 0 false [liS 7] none
def wkG : Ss := wkS 8 7 6 1 false [liS 7] none
def wkH : Ss := wkS 8 8 6 1 false [] none
def wkI : Ss := wkS 8 8 6 1 true [] (some (rawS (byeS 0)))
def wkJ : Ss := wkS 8 8 6 1 true [] none
theorem wk_new : newS 3 1 5 (2 : Int).toNat 10 0 = wkA := rfl
theorem wk_newOk : newOk 3 1 5 2 10 0 = true := by decide
theorem wk1 : wkA.offer 5 joinE [] = (wkB, 0) := wk_offer 5 5 5 0 [] 5 sd_a (by simp) rfl
theorem wk2 : wkB.offer 6 joinE [] = (wkC, 0) := wk_offer 6 5 5 0 [liS 5] 6 sd_b (by simp) rfl
theorem wk3 : wkC.offer 7 joinE [] = (wkC, 350) := wk_over 7 5 5 0 [liS 5, liS 6] 7 sd_c (by simp) (by intro x hx; simp at hx; rcases hx with rfl | rfl <;> rfl) rfl
theorem wk4 : wkC.offer 9 joinE [] = (wkC, 320) := wk_turn 7 5 5 0 [liS 5, liS 6] 9 sd_d (by decide)
theorem wk5 : wkC.take = (wkD, some (rawS (lnS 5))) := wk_take 7 5 5 0 [liS 6] 5 (by decide)
theorem wk6 : wkD.take = (wkE, some (rawS (lnS 6))) := wk_take 7 6 5 0 [] 6 (by decide)
theorem wk7 : wkE.offer 7 joinE [] = (wkF, 0) := wk_offer 7 7 5 0 [] 7 sd_c (by simp) rfl
theorem wk8 : wkF.take = (wkF, none) := wk_waits 8 7 5 0 [] 7 (by decide)
theorem wk9 : wkF.ack 6 1 = (wkG, 0) := rfl
theorem wk10 : wkG.take = (wkH, some (rawS (lnS 7))) := wk_take 8 7 6 1 [] 7 (by decide)
theorem wk11 : wkH.silent 10 = false := rfl
theorem wk12 : wkH.silent 11 = true := rfl
theorem wk13 : wkH.close 0 = (wkI, 0) := rfl
theorem wk14 : wkI.take = (wkJ, some (rawS (byeS 0))) := rfl
theorem wk15 : wkJ.take = (wkJ, none) := rfl
theorem wk16 : wkJ.hear 12 = (wkJ, 360) := rfl
theorem wt5 : takenL wkC = 5 := taken_line wkC (lnS 5) sd_a rfl (by rw [wk5])
theorem wt6 : takenL wkD = 6 := taken_line wkD (lnS 6) sd_b rfl (by rw [wk6])
theorem wt8 : takenL wkF = -1 := taken_none wkF (by rw [wk8])
theorem wt10 : takenL wkG = 7 := taken_line wkG (lnS 7) sd_c rfl (by rw [wk10])
theorem wt14 : takenL wkI = -2 := taken_other wkI (byeS 0) (sd_bye 0 (by decide)) (by decide) (by rw [wk14])
theorem wt15 : takenL wkJ = -1 := taken_none wkJ (by rw [wk15])
theorem okA : OkSs wkA 0 := wk_new ▸ (new_ok wk_newOk).1
theorem okB : OkSs wkB 1 := by have h := okA.offer 5 joinE []; rw [wk1] at h; exact h
theorem okC : OkSs wkC 2 := by have h := okB.offer 6 joinE []; rw [wk2] at h; exact h
theorem okD : OkSs wkD 2 := by have h := okC.take; rw [wk5] at h; exact h
theorem okE : OkSs wkE 2 := by have h := okD.take; rw [wk6] at h; exact h
theorem okF : OkSs wkF 3 := by have h := okE.offer 7 joinE []; rw [wk7] at h; exact h
theorem okG : OkSs wkG 3 := by have h := okF.ack 6 1; rw [wk9] at h; exact h
theorem okH : OkSs wkH 3 := by have h := okG.take; rw [wk10] at h; exact h
theorem okI : OkSs wkI 3 := by have h := okH.close 0; rw [wk13] at h; exact h
theorem okJ : OkSs wkJ 3 := by have h := okI.take; rw [wk14] at h; exact h
end
section
theorem Mem.step2 {F : Nat → Prop} {w0 w : World} {L : List Res} {r : Res} (h : Mem F w0 w (r :: L)) : ∃ A, r.p A w ∧ (∀ k, A k → F k ∨ w0.heap.size ≤ k) ∧ (∀ (r' : Res) (w' : World), Upd A w w' r' → Mem F w0 w' (r' :: L)) ∧ ∀ b t cs L2, Pick L (cellsR b t cs) L2 → ¬ A b := by
 obtain ⟨a, G, ⟨A, B, h1, h2, h3, h4⟩, c⟩ := h
 have hA := fun k hk => c k ((h4 k).2 (.inl hk))
 refine ⟨A, h1, hA, fun r' w' ⟨A', u1, u2, u3⟩ => ?_, fun b t cs L2 p hb => ?_⟩
 · have hB := fun k hk => c k ((h4 k).2 (.inr hk))
   have hlt := h2.lt
   refine ⟨a.then u2 fun i hi h => ?_, fun k => A' k ∨ B k, ⟨A', B, u1, h2.keeps u2 fun k hk hA' => h3 k hA' hk, fun k h5 h6 => ?_, fun k => Iff.rfl⟩, fun k hk => ?_⟩
   · rcases hA i h with h | h
     · exact h
     · omega
   · rcases u3 k h5 with h | h
     · exact h3 k h h6
     · have := hlt k h6; omega
   · rcases hk with hk | hk
     · rcases u3 k hk with h | h
       · exact hA k h
       · have := a.size; exact .inr (by omega)
     · exact hB k hk
 · obtain ⟨C, D, g1, g2, g3, g4⟩ := p.sep h2
   exact h3 b hb ((g4 b).2 (.inl ((g1.1 b).2 rfl)))
theorem infoEnt : (Tryz.prog.info? 35).map (·.size) = some 4 := by kernel_rfl
theorem works_any (w : World) (hT : Tabs w) : Calls Tryz.prog 22 #[] w fun e w' => e = .returned (.bool true) ∧ Ext w w' := by
 have HM := Lib.hid (Mem.start0 w)
 have HX := Lib.hid (show TabX NoB w from ⟨hT, noB _, noB _⟩)
 clear hT
 go_enter Tryz.func22, Tryz.ntmps22
 have fM := HM.out.fa
 go_wp2_with fail
 all_goals clear fM
 obtain ⟨k1, hk1⟩ : ∃ k, w.heap.size = k := ⟨_, rfl⟩
 refine nxt HM fun w1 M => ?_
 clear HM; have HM := M; clear M
 rw [hk1] at HM ⊢
 clear hk1
 refine (snew_yes w1 3 1 5 2 10 0 wk_newOk).mono ?_
 rintro e w2 ⟨sb, rfl, hU⟩
 rw [wk_new] at hU
 replace HM := Lib.hid (HM.out.newU hU)
 clear hU
 have fM := HM.out.fa
 go_wp2_with fail
 all_goals clear fM
 refine nxt HM fun w3 M => ?_
 clear HM; have HM := M; clear M
 obtain ⟨_, hBk⟩ := HM.out.get (r := cellsR k1 35 [.int .i64 2, .int .i64 1, .int .i64 0, .string ⟨#[]⟩]) pk
 have HBO := Lib.hid hBk.2
 clear hBk
 have fM := HM.out.fa
 have hE0 : Keeps (fun k => ¬ k = k1) w3 w3.drew := (Keeps.refl _ _).drew
 refine wp_region_plan [(0, 0), (3, 1), (0, 3), (1, 4), (0, 6), (1, 7), (0, 9), (1, 10), (2, 2), (2, 5), (2, 8)] [4, 7, 10] [2, 5, 8, 11, 12, 13, 14, 15] [11, 12, 13, 14, 15] (ClsK (fun k => ¬ k = k1) w3) (by kernel_rfl) (by kernel_rfl) (plan3 [0, 0, 3, 0, 0, 31, 0, 0, 255, 0, 0, 2047, 4095, 8191, 16383, 32767] (by kernel_rfl) rfl (by kernel_rfl)) rfl rfl (ClsK.of hE0) (fun _ _ _ d _ h => by cases d <;> exact h) ?_; simp only [planL, nL]
 refine pM _ rfl rfl ?_; simp only [nP, nE]
 refine pX (v := .agg #[.int .i64 2, .int .i64 1, .int .i64 0, .string ⟨#[]⟩]) rfl (elB 35 _ rfl rfl (HBO.out.ext (Ext.drew0 w3)) Tryz.underlying35 rfl infoEnt) ?_; simp only [nP]
 refine pM _ rfl rfl ?_; simp only [nP, nE]
 refine pK (v := .agg #[.int .i64 2, .int .i64 1, .int .i64 0, .string ⟨#[]⟩]) rfl (fun y => elB 35 _ rfl rfl (HBO.out.keeps y.h (fun h => h rfl)) Tryz.underlying35 rfl infoEnt) ?_; simp only [nP]
 refine pM _ rfl rfl ?_; simp only [nP, nE]
 refine pK (v := .agg #[.int .i64 2, .int .i64 1, .int .i64 0, .string ⟨#[]⟩]) rfl (fun y => elB 35 _ rfl rfl (HBO.out.keeps y.h (fun h => h rfl)) Tryz.underlying35 rfl infoEnt) ?_; simp only [nP]
 refine pM _ rfl rfl ?_; simp only [nP, nE]
 refine pK (v := .agg #[.int .i64 2, .int .i64 1, .int .i64 0, .string ⟨#[]⟩]) rfl (fun y => elB 35 _ rfl rfl (HBO.out.keeps y.h (fun h => h rfl)) Tryz.underlying35 rfl infoEnt) ?_; simp only [nP]
 refine plan_does rfl (fun K hK => ?_)
 go_wp2_with fail
 replace HM := Lib.hid HM.out.drew
 obtain ⟨A', hA', hAF, hZ, hblk⟩ := (HM.out.pick (r := sesR sb wkA) pk).step2
 have hn := hblk k1 _ _ _ (by with_reducible repeat first | exact ph | apply pt)
 refine (offer_any w3.drew sb wkA 0 okA (by decide) 5 joinE [] (by unfold I64 joinE; decide) (by decide) (by decide) hA' (tabX_ok.step HX.out HM.out.keepsTo hAF)).mono ?_
 rintro r wz ⟨rfl, hU⟩
 rw [wk1] at hU ⊢
 have hE1 := hE0.then hU.keepsTo (fun i _ h e => hn (e ▸ h))
 replace HM := Lib.hid (hZ _ _ hU)
 clear hA' hAF hZ hblk hn hU
 clear A'
 refine hK _ _ ⟨ClsK.of (by assumption), ?_⟩; clear hK K; try simp only [nP]
 refine plan_does rfl (fun K hK => ?_)
 go_wp2_with fail
 skip
 obtain ⟨A', hA', hAF, hZ, hblk⟩ := (HM.out.pick (r := sesR sb wkB) pk).step2
 have hn := hblk k1 _ _ _ (by with_reducible repeat first | exact ph | apply pt)
 refine (offer_any _ sb wkB 1 okB (by decide) 6 joinE [] (by unfold I64 joinE; decide) (by decide) (by decide) hA' (tabX_ok.step HX.out HM.out.keepsTo hAF)).mono ?_
 rintro r wz ⟨rfl, hU⟩
 rw [wk2] at hU ⊢
 have hE2 := hE1.then hU.keepsTo (fun i _ h e => hn (e ▸ h))
 replace HM := Lib.hid (hZ _ _ hU)
 clear hA' hAF hZ hblk hn hU
 clear A'
 refine hK _ _ ⟨ClsK.of (by assumption), ?_⟩; clear hK K; try simp only [nP]
 refine plan_does rfl (fun K hK => ?_)
 go_wp2_with fail
 skip
 obtain ⟨A', hA', hAF, hZ, hblk⟩ := (HM.out.pick (r := sesR sb wkC) pk).step2
 have hn := hblk k1 _ _ _ (by with_reducible repeat first | exact ph | apply pt)
 refine (offer_any _ sb wkC 2 okC (by decide) 7 joinE [] (by unfold I64 joinE; decide) (by decide) (by decide) hA' (tabX_ok.step HX.out HM.out.keepsTo hAF)).mono ?_
 rintro r wz ⟨rfl, hU⟩
 rw [wk3] at hU ⊢
 have hE3 := hE2.then hU.keepsTo (fun i _ h e => hn (e ▸ h))
 replace HM := Lib.hid (hZ _ _ hU)
 clear hA' hAF hZ hblk hn hU
 clear A'
 refine hK _ _ ⟨ClsK.of (by assumption), ?_⟩; clear hK K; try simp only [nP]
 refine plan_nil ?_; simp only [tailL, List.filterMap_cons, List.filterMap_nil, nL]; change wpList _ _ _ (_ :: _ :: _ :: _ :: _ :: []) _ _
 go_wp2_with fail
 skip
 obtain ⟨A', hA', hAF, hZ, hblk⟩ := (HM.out.pick (r := sesR sb wkC) pk).step2
 have hn := hblk k1 _ _ _ (by with_reducible repeat first | exact ph | apply pt)
 refine (offer_any _ sb wkC 2 okC (by decide) 9 joinE [] (by unfold I64 joinE; decide) (by decide) (by decide) hA' (tabX_ok.step HX.out HM.out.keepsTo hAF)).mono ?_
 rintro r wz ⟨rfl, hU⟩
 rw [wk4] at hU ⊢
 have hE4 := hE3.then hU.keepsTo (fun i _ h e => hn (e ▸ h))
 replace HM := Lib.hid (hZ _ _ hU)
 clear hA' hAF hZ hblk hn hU
 clear A'
 clear fM
 clear hE0 hE1 hE2 hE3 hE4
 have fM := HM.out.fa
 go_wp2_with fail
 all_goals clear fM
 refine nxt HM fun w5 M => ?_
 clear HM; have HM := M; clear M
 obtain ⟨A', hA', hAF, hZ, hblk⟩ := (HM.out.pick (r := sesR sb wkC) pk).step2
 refine (staken_any w5 sb wkC 2 okC hA' (tabX_ok.step HX.out HM.out.keepsTo hAF)).mono ?_
 rintro r wz ⟨rfl, hU⟩
 rw [wt5]
 rw [wk5] at hU
 replace HM := Lib.hid (hZ _ _ hU)
 clear hA' hAF hZ hblk hU
 clear A'
 have fM := HM.out.fa
 go_wp2_with fail
 all_goals clear fM
 refine nxt HM fun w6 M => ?_
 clear HM; have HM := M; clear M
 obtain ⟨A', hA', hAF, hZ, hblk⟩ := (HM.out.pick (r := sesR sb wkD) pk).step2
 refine (staken_any w6 sb wkD 2 okD hA' (tabX_ok.step HX.out HM.out.keepsTo hAF)).mono ?_
 rintro r wz ⟨rfl, hU⟩
 rw [wt6]
 rw [wk6] at hU
 replace HM := Lib.hid (hZ _ _ hU)
 clear hA' hAF hZ hblk hU
 clear A'
 have fM := HM.out.fa
 go_wp2_with fail
 all_goals clear fM
 refine nxt HM fun w7 M => ?_
 clear HM; have HM := M; clear M
 obtain ⟨A', hA', hAF, hZ, hblk⟩ := (HM.out.pick (r := sesR sb wkE) pk).step2
 refine (offer_any w7 sb wkE 2 okE (by decide) 7 joinE [] (by unfold I64 joinE; decide) (by decide) (by decide) hA' (tabX_ok.step HX.out HM.out.keepsTo hAF)).mono ?_
 rintro r wz ⟨rfl, hU⟩
 rw [wk7] at hU ⊢
 replace HM := Lib.hid (hZ _ _ hU)
 clear hA' hAF hZ hblk hU
 clear A'
 have fM := HM.out.fa
 go_wp2_with fail
 all_goals clear fM
 refine nxt HM fun w8 M => ?_
 clear HM; have HM := M; clear M
 obtain ⟨A', hA', hAF, hZ, hblk⟩ := (HM.out.pick (r := sesR sb wkF) pk).step2
 refine (staken_any w8 sb wkF 3 okF hA' (tabX_ok.step HX.out HM.out.keepsTo hAF)).mono ?_
 rintro r wz ⟨rfl, hU⟩
 rw [wt8]
 rw [wk8] at hU
 replace HM := Lib.hid (hZ _ _ hU)
 clear hA' hAF hZ hblk hU
 clear A'
 have fM := HM.out.fa
 go_wp2_with fail
 all_goals clear fM
 refine nxt HM fun w9 M => ?_
 clear HM; have HM := M; clear M
 obtain ⟨A', hA', hAF, hZ, hblk⟩ := (HM.out.pick (r := sesR sb wkF) pk).step2
 refine (ack_any w9 sb wkF 6 1 hA').mono ?_
 rintro r wz ⟨rfl, hU⟩
 rw [wk9] at hU ⊢
 replace HM := Lib.hid (hZ _ _ hU)
 clear hA' hAF hZ hblk hU
 clear A'
 have fM := HM.out.fa
 go_wp2_with fail
 all_goals clear fM
 refine nxt HM fun w10 M => ?_
 clear HM; have HM := M; clear M
 obtain ⟨A', hA', hAF, hZ, hblk⟩ := (HM.out.pick (r := sesR sb wkG) pk).step2
 refine (staken_any w10 sb wkG 3 okG hA' (tabX_ok.step HX.out HM.out.keepsTo hAF)).mono ?_
 rintro r wz ⟨rfl, hU⟩
 rw [wt10]
 rw [wk10] at hU
 replace HM := Lib.hid (hZ _ _ hU)
 clear hA' hAF hZ hblk hU
 clear A'
 have fM := HM.out.fa
 go_wp2_with fail
 all_goals clear fM
 refine nxt HM fun w11 M => ?_
 clear HM; have HM := M; clear M
 obtain ⟨Ahs, hs⟩ := HM.out.get (r := sesR sb wkH) pk
 refine (silent_any w11 sb wkH 10 hs (by decide) (by unfold I64; decide)).mono ?_
 rintro r wz ⟨rfl, hE⟩
 rw [wk11]
 replace HM := Lib.hid (HM.out.ext hE)
 clear hE hs
 have fM := HM.out.fa
 go_wp2_with fail
 all_goals clear fM
 refine nxt HM fun w12 M => ?_
 clear HM; have HM := M; clear M
 obtain ⟨Ahs, hs⟩ := HM.out.get (r := sesR sb wkH) pk
 refine (silent_any w12 sb wkH 11 hs (by decide) (by unfold I64; decide)).mono ?_
 rintro r wz ⟨rfl, hE⟩
 rw [wk12]
 replace HM := Lib.hid (HM.out.ext hE)
 clear hE hs
 have fM := HM.out.fa
 go_wp2_with fail
 all_goals clear fM
 refine nxt HM fun w13 M => ?_
 clear HM; have HM := M; clear M
 obtain ⟨A', hA', hAF, hZ, hblk⟩ := (HM.out.pick (r := sesR sb wkH) pk).step2
 refine (close_any w13 sb wkH 0 hA' (tabX_ok.step HX.out HM.out.keepsTo hAF)).mono ?_
 rintro r wz ⟨rfl, hU⟩
 rw [wk13] at hU ⊢
 replace HM := Lib.hid (hZ _ _ hU)
 clear hA' hAF hZ hblk hU
 clear A'
 have fM := HM.out.fa
 go_wp2_with fail
 all_goals clear fM
 refine nxt HM fun w14 M => ?_
 clear HM; have HM := M; clear M
 obtain ⟨A', hA', hAF, hZ, hblk⟩ := (HM.out.pick (r := sesR sb wkI) pk).step2
 refine (staken_any w14 sb wkI 3 okI hA' (tabX_ok.step HX.out HM.out.keepsTo hAF)).mono ?_
 rintro r wz ⟨rfl, hU⟩
 rw [wt14]
 rw [wk14] at hU
 replace HM := Lib.hid (hZ _ _ hU)
 clear hA' hAF hZ hblk hU
 clear A'
 have fM := HM.out.fa
 go_wp2_with fail
 all_goals clear fM
 refine nxt HM fun w15 M => ?_
 clear HM; have HM := M; clear M
 obtain ⟨A', hA', hAF, hZ, hblk⟩ := (HM.out.pick (r := sesR sb wkJ) pk).step2
 refine (staken_any w15 sb wkJ 3 okJ hA' (tabX_ok.step HX.out HM.out.keepsTo hAF)).mono ?_
 rintro r wz ⟨rfl, hU⟩
 rw [wt15]
 rw [wk15] at hU
 replace HM := Lib.hid (hZ _ _ hU)
 clear hA' hAF hZ hblk hU
 clear A'
 have fM := HM.out.fa
 go_wp2_with fail
 all_goals clear fM
 refine (snum_any _ _).mono ?_
 rintro r wq ⟨rfl, hwq⟩
 rw [hwq]
 clear hwq wq
 have fM := HM.out.fa
 go_wp2_with fail
 all_goals clear fM
 refine (snum_any _ _).mono ?_
 rintro r wq ⟨rfl, hwq⟩
 rw [hwq]
 clear hwq wq
 have fM := HM.out.fa
 go_wp2_with fail
 all_goals clear fM
 refine (snum_any _ _).mono ?_
 rintro r wq ⟨rfl, hwq⟩
 rw [hwq]
 clear hwq wq
 have fM := HM.out.fa
 go_wp2_with fail
 all_goals clear fM
 refine (snum_any _ _).mono ?_
 rintro r wq ⟨rfl, hwq⟩
 rw [hwq]
 clear hwq wq
 have fM := HM.out.fa
 go_wp2_with fail
 all_goals clear fM
 refine (snum_any _ _).mono ?_
 rintro r wq ⟨rfl, hwq⟩
 rw [hwq]
 clear hwq wq
 have fM := HM.out.fa
 go_wp2_with fail
 all_goals clear fM
 refine (snum_any _ _).mono ?_
 rintro r wq ⟨rfl, hwq⟩
 rw [hwq]
 clear hwq wq
 have fM := HM.out.fa
 go_wp2_with fail
 all_goals clear fM
 refine (snum_any _ _).mono ?_
 rintro r wq ⟨rfl, hwq⟩
 rw [hwq]
 clear hwq wq
 have fM := HM.out.fa
 go_wp2_with fail
 all_goals clear fM
 refine (snum_any _ _).mono ?_
 rintro r wq ⟨rfl, hwq⟩
 rw [hwq]
 clear hwq wq
 have fM := HM.out.fa
 go_wp2_with fail
 all_goals clear fM
 refine nxt HM fun w16 M => ?_
 clear HM; have HM := M; clear M
 obtain ⟨A', hA', hAF, hZ, hblk⟩ := (HM.out.pick (r := sesR sb wkJ) pk).step2
 refine (hear_any w16 sb wkJ 12 hA').mono ?_
 rintro r wz ⟨rfl, hU⟩
 rw [wk16] at hU ⊢
 replace HM := Lib.hid (hZ _ _ hU)
 clear hA' hAF hZ hblk hU
 clear A'
 have fM := HM.out.fa
 go_wp2_with fail
 all_goals clear fM
 refine (snum_any _ _).mono ?_
 rintro r wq ⟨rfl, hwq⟩
 rw [hwq]
 clear hwq wq
 have fM := HM.out.fa
 go_wp2_with fail
 all_goals clear fM
 go_ret
 exact ⟨rfl, HM.out.extTo⟩
end
section
theorem Scs.keeps {S : Nat → Prop} {w w' : World} {A : Nat → Prop} {v : Value} {ls : List Sc} (h : Scs w A v ls) (e : Keeps S w w') (hs : ∀ k, A k → ¬ S k) : Scs w' A v ls := by
 rcases h with ⟨a, h1, h2⟩ | ⟨b, o, c, h1, h2, h3, h4⟩
 · exact .inl ⟨a, h1, h2⟩
 · refine .inr ⟨b, o, c, h1, h2, h3, fun i hi => ?_⟩
   obtain ⟨cs, ⟨e1, e2⟩, e4, e5⟩ := h4 i hi
   refine ⟨cs, ⟨e1, e2⟩, e4, fun j hj => ?_⟩
   have h5 := e5 j hj
   have h6 : cs[j]? = some (cs[j]'(by rw [e4]; exact hj)) := List.getElem?_eq_getElem _
   rw [h6] at h5 ⊢
   exact e.cell (hs b h3) h5
theorem Scs.ext {w w' : World} {A : Nat → Prop} {v : Value} {ls : List Sc} (h : Scs w A v ls) (e : Ext w w') : Scs w' A v ls := h.keeps e fun _ _ => noB _
theorem Scs.ok {w : World} {A : Nat → Prop} {a : Option Addr} {n c : Nat} {ls : List Sc} (h : Scs w A (.slice a n c) ls) (i : Nat) (hi : i < ls.length) : OkSc ls[i] := let ⟨_, _, _, _, _, h, _⟩ := h.at i hi; h
theorem Scs.ld {w : World} {A : Nat → Prop} {g o n c : Nat} {ls : List Sc} (h : Scs w A (.slice (some ⟨g, o, none⟩) n c) ls) (i : Nat) (hi : i < ls.length) : (Instr.loadAt 79 (.pointer (some ⟨g, o + i * 19, none⟩))).run Tryz.prog w = .ok (.agg ls[i].cells.toArray) w := by
 obtain ⟨g', o', h1, -, -, -, h2⟩ := h.at i hi
 cases h1
 exact sc_load h2
theorem Scs.adr {w : World} {A : Nat → Prop} {a : Option Addr} {n c : Nat} {ls : List Sc} (h : Scs w A (.slice a n c) ls) (i : Nat) (hi : i < ls.length) : ∃ g o, a = some ⟨g, o, none⟩ := let ⟨g, o, h, _⟩ := h.at i hi; ⟨g, o, h⟩
def fewS (ls : List Sc) (most : Int) : Bool := (ls.all fun x => !longS x) && decide ((ls.length : Int) ≤ most)
theorem fewS.short {ls : List Sc} {most : Int} (h : fewS ls most = true) (i : Nat) (hi : i < ls.length) : ShortSc ls[i] := by
 unfold fewS at h
 rw [Bool.and_eq_true] at h
 have h1 := List.all_eq_true.1 h.1 _ (List.getElem_mem hi)
 exact short_of (by simpa using h1)
theorem fewS.len {ls : List Sc} {most : Int} (h : fewS ls most = true) : (ls.length : Int) ≤ most := by
 unfold fewS at h
 rw [Bool.and_eq_true] at h
 simpa using h.2
theorem acts_snoc (s : Ss) (ls : List Sc) (k : Nat) (hk : k < ls.length) : s.acts (ls.take (k + 1)) = (s.acts (ls.take k)).act ls[k] := by
 rw [List.take_succ_eq_append_getElem hk]
 unfold Ss.acts
 rw [List.foldl_append]
 rfl
def stV (s : Ss) : Value := .agg s.state.toArray
def stO (s : Ss) : Sv := ⟨s.member, s.number, s.next, s.sent, s.acked, s.heard, s.live, s.closed, s.queued⟩
theorem eq_st (s : Ss) (W : World) : (binOp .eql 68 (stV s) (stV s)).run Tryz.prog W = .ok (.bool true) W := by
 have h := eq_sv (stO s) (stO s) W
 rw [decide_eq_true rfl] at h
 exact h
theorem ne_st (s : Ss) (W : World) : (binOp .neq 68 (stV s) (stV s)).run Tryz.prog W = .ok (.bool false) W := by
 have h := ne_sv (stO s) (stO s) W
 rw [decide_eq_true rfl] at h
 exact h
theorem gd_st (s : Ss) (op : BinOp) (x y : Operand) (W : World) : (eqGuard op 68 x y (stV s) (stV s)).run Tryz.prog W = .ok () W := run_eqGuard_agg W op _ x y _ _ (by kernel_rfl)
theorem OkSs.its6 {s : Ss} {n : Nat} (h : OkSs s n) : ∀ x ∈ s.ring.items, x.bytes.length ≤ 1000000 := fun x hx => Nat.le_trans (h.its x hx) (by decide)
theorem OkSs.len3 {s : Ss} {n : Nat} (h : OkSs s n) : s.ring.items.length ≤ 1000 := by have := h.len; have := h.most; omega
theorem sst_any {A : Nat → Prop} (w : World) (sb : Nat) (s : Ss) (n : Nat) (hok : OkSs s n) (h : (sesR sb s).p A w) :
 Calls Tryz.prog 39 #[.pointer (some ⟨sb, 0, none⟩)] w fun e w' => e = .returned (stV s) ∧ Ext w w' := state_any w sb s h hok.its6 hok.len3
theorem dst_any {A : Nat → Prop} (w : World) (v : Value) (s : Ss) (n : Nat) (hok : OkSs s n) (h : DocAt w A v s) :
 Calls Tryz.prog 40 #[v] w fun e w' => e = .returned (stV s) ∧ Ext w w' := dstate_any w v s h hok.len3
theorem few_s {A : Nat → Prop} (w : World) (v : Value) (ls : List Sc) (most : Int) (h : Scs w A v ls) (hl : ls.length ≤ 9223372036854775807) :
 Calls Tryz.prog 21 #[v, .int .i64 most] w fun e w' => e = .returned (.bool (fewS ls most)) ∧ Ext w w' := few_any w v ls most h hl
theorem Mem.docNew {F : Nat → Prop} {w0 w w' : World} {L : List Res} {v : Value} {s : Ss} (h : Mem F w0 w L) (hd : DocAt w' NoB v s) (e : Ext w w') : Mem F w0 w' (docsR [(v, s)] :: L) :=
 h.new e ⟨fun p hp => by
  rw [List.mem_singleton] at hp
  subst hp
  exact hd, fun k h => (noB _ h).elim⟩ (fun k h => (noB _ h).elim)
theorem Mem.mine {w0 w : World} {L L1 : List Res} {b : Nat} {t : TypeId} {cs : List Value} (h : Mem NoB w0 w L) (p : Pick L (cellsR b t cs) L1) : w0.heap.size ≤ b := by
 obtain ⟨A, hA, hAF, -, -⟩ := (h.pick p).step2
 exact (hAF b ((hA.1 b).2 rfl)).resolve_left (noB _)
theorem Mem.out2 {w0 w : World} {L L1 L2 : List Res} {b kw : Nat} {t u : TypeId} {cs ds : List Value} (h : Mem NoB w0 w L) [p : PkB L b t cs L1] [q : PkB L1 kw u ds L2] : ¬ (b = kw ∨ b < w0.heap.size) := by
 have h1 := Mem.mine h p.out
 have h2 := Mem.ne h p.out q.out
 rintro (h3 | h3)
 · exact h2 h3.symm
 · omega
end
section
attribute [local go_sem] Oper.semAt_some eq_st ne_st gd_st
theorem raws_few {A : Nat → Prop} (w : World) (v : Value) (ls : List Sc) (index now : Int) (e : En) (t : List UInt8) (h : Scs w A v ls) (hl : ls.length ≤ 9223372036854775807) (hek : I64 e.kind) (hni : I64 now) (hT : Tabs w) (hf : fewS ls 20 = false) :
 Calls Tryz.prog 5 #[v, .int .i64 index, .int .i64 now, .agg e.cells.toArray, .string (bs t)] w fun r w' => r = .returned (.bool true) ∧ Ext w w' := by
 have HV := Lib.hid h
 have HL := Lib.hid hl
 have HT := Lib.hid hT
 have HEK := Lib.hid hek
 have HNI := Lib.hid hni
 have HM := Lib.hid (Mem.start0 w)
 have HF := Lib.hid hf
 obtain ⟨a0, c0, rfl⟩ := h.len
 clear h hl hT hek hni hf
 unfold En.cells
 go_enter Tryz.func5, Tryz.ntmps5
 have fM := HM.out.fa
 go_wp2_with fail
 all_goals clear fM
 obtain ⟨ke, hke⟩ : ∃ k, w.heap.size = k := ⟨_, rfl⟩
 refine nxt HM fun w1 M => ?_
 clear HM; have HM := M; clear M
 rw [hke] at HM ⊢
 clear hke
 refine (few_s w1 _ ls 20 (HV.out.ext HM.out.extTo) HL.out).mono ?_
 rintro r w2 ⟨rfl, hE⟩
 rw [HF.out]
 replace HM := Lib.hid (HM.out.ext hE)
 clear hE
 have fM := HM.out.fa
 go_wp2_with fail
 all_goals clear fM
 refine nxt HM fun w8 M => ?_
 clear HM; have HM := M; clear M
 refine (works_any w8 (HT.out.ext HM.out.extTo)).mono ?_
 rintro r w9 ⟨rfl, hE⟩
 replace HM := Lib.hid (HM.out.ext hE)
 clear hE
 have fM := HM.out.fa
 go_wp2_with fail
 all_goals clear fM
 go_ret
 exact ⟨rfl, HM.out.extTo⟩
theorem raws_long {A : Nat → Prop} (w : World) (v : Value) (ls : List Sc) (index now : Int) (e : En) (t : List UInt8) (h : Scs w A v ls) (hl : ls.length ≤ 9223372036854775807) (hek : I64 e.kind) (hni : I64 now) (hT : Tabs w) (hf : fewS ls 20 = true) (h1 : 300 < e.text.length) :
 Calls Tryz.prog 5 #[v, .int .i64 index, .int .i64 now, .agg e.cells.toArray, .string (bs t)] w fun r w' => r = .returned (.bool true) ∧ Ext w w' := by
 have k1 := bs_size e.text
 have g1 : decide ((300 : Int) < (e.text.length : Int)) = true := by simp; omega
 clear h1
 have HV := Lib.hid h
 have HL := Lib.hid hl
 have HT := Lib.hid hT
 have HEK := Lib.hid hek
 have HNI := Lib.hid hni
 have HM := Lib.hid (Mem.start0 w)
 have HF := Lib.hid hf
 obtain ⟨a0, c0, rfl⟩ := h.len
 clear h hl hT hek hni hf
 unfold En.cells
 go_enter Tryz.func5, Tryz.ntmps5
 have fM := HM.out.fa
 go_wp2_with fail
 all_goals clear fM
 obtain ⟨ke, hke⟩ : ∃ k, w.heap.size = k := ⟨_, rfl⟩
 refine nxt HM fun w1 M => ?_
 clear HM; have HM := M; clear M
 rw [hke] at HM ⊢
 clear hke
 refine (few_s w1 _ ls 20 (HV.out.ext HM.out.extTo) HL.out).mono ?_
 rintro r w2 ⟨rfl, hE⟩
 rw [HF.out]
 replace HM := Lib.hid (HM.out.ext hE)
 clear hE
 have fM := HM.out.fa
 go_wp2_with fail
 all_goals clear fM
 refine nxt HM fun w8 M => ?_
 clear HM; have HM := M; clear M
 refine (works_any w8 (HT.out.ext HM.out.extTo)).mono ?_
 rintro r w9 ⟨rfl, hE⟩
 replace HM := Lib.hid (HM.out.ext hE)
 clear hE
 have fM := HM.out.fa
 go_wp2_with fail
 all_goals clear fM
 go_ret
 exact ⟨rfl, HM.out.extTo⟩
theorem raws_tok {A : Nat → Prop} (w : World) (v : Value) (ls : List Sc) (index now : Int) (e : En) (t : List UInt8) (h : Scs w A v ls) (hl : ls.length ≤ 9223372036854775807) (hek : I64 e.kind) (hni : I64 now) (hT : Tabs w) (hf : fewS ls 20 = true) (h1 : ¬ 300 < e.text.length) (h2 : 300 < t.length) :
 Calls Tryz.prog 5 #[v, .int .i64 index, .int .i64 now, .agg e.cells.toArray, .string (bs t)] w fun r w' => r = .returned (.bool true) ∧ Ext w w' := by
 have k1 := bs_size e.text
 have g1 : decide ((300 : Int) < (e.text.length : Int)) = false := by simp; omega
 have k2 := bs_size t
 have g2 : decide ((300 : Int) < (t.length : Int)) = true := by simp; omega
 clear h1 h2
 have HV := Lib.hid h
 have HL := Lib.hid hl
 have HT := Lib.hid hT
 have HEK := Lib.hid hek
 have HNI := Lib.hid hni
 have HM := Lib.hid (Mem.start0 w)
 have HF := Lib.hid hf
 obtain ⟨a0, c0, rfl⟩ := h.len
 clear h hl hT hek hni hf
 unfold En.cells
 go_enter Tryz.func5, Tryz.ntmps5
 have fM := HM.out.fa
 go_wp2_with fail
 all_goals clear fM
 obtain ⟨ke, hke⟩ : ∃ k, w.heap.size = k := ⟨_, rfl⟩
 refine nxt HM fun w1 M => ?_
 clear HM; have HM := M; clear M
 rw [hke] at HM ⊢
 clear hke
 refine (few_s w1 _ ls 20 (HV.out.ext HM.out.extTo) HL.out).mono ?_
 rintro r w2 ⟨rfl, hE⟩
 rw [HF.out]
 replace HM := Lib.hid (HM.out.ext hE)
 clear hE
 have fM := HM.out.fa
 go_wp2_with fail
 all_goals clear fM
 refine nxt HM fun w8 M => ?_
 clear HM; have HM := M; clear M
 refine (works_any w8 (HT.out.ext HM.out.extTo)).mono ?_
 rintro r w9 ⟨rfl, hE⟩
 replace HM := Lib.hid (HM.out.ext hE)
 clear hE
 have fM := HM.out.fa
 go_wp2_with fail
 all_goals clear fM
 go_ret
 exact ⟨rfl, HM.out.extTo⟩
def rawS0 : Ss := newS 3 1 5 3 10 100
theorem raw_newOk : newOk 3 1 5 3 10 100 = true := by decide
theorem raw_new : newS 3 1 5 (3 : Int).toNat 10 100 = rawS0 := rfl
theorem raw_ok0 : OkSs rawS0 0 := raw_new ▸ (new_ok raw_newOk).1
theorem raws_in {A : Nat → Prop} (w : World) (v : Value) (ls : List Sc) (index now : Int) (e : En) (t : List UInt8) (h : Scs w A v ls) (hl : ls.length ≤ 9223372036854775807) (hek : I64 e.kind) (hni : I64 now) (hT : Tabs w) (hf : fewS ls 20 = true) (h1 : ¬ 300 < e.text.length) (h2 : ¬ 300 < t.length) :
 Calls Tryz.prog 5 #[v, .int .i64 index, .int .i64 now, .agg e.cells.toArray, .string (bs t)] w fun r w' => r = .returned (.bool true) ∧ Ext w w' := by
 have k1 := bs_size e.text
 have g1 : decide ((300 : Int) < (e.text.length : Int)) = false := by simp; omega
 have k2 := bs_size t
 have g2 : decide ((300 : Int) < (t.length : Int)) = false := by simp; omega
 have H1 := Lib.hid h1
 have H2 := Lib.hid h2
 clear h1 h2
 have HV := Lib.hid h
 have HL := Lib.hid hl
 have HT := Lib.hid hT
 have HEK := Lib.hid hek
 have HNI := Lib.hid hni
 have HM := Lib.hid (Mem.start0 w)
 have HF := Lib.hid hf
 obtain ⟨a0, c0, rfl⟩ := h.len
 clear h hl hT hek hni hf
 unfold En.cells
 go_enter Tryz.func5, Tryz.ntmps5
 have fM := HM.out.fa
 go_wp2_with fail
 all_goals clear fM
 obtain ⟨ke, hke⟩ : ∃ k, w.heap.size = k := ⟨_, rfl⟩
 refine nxt HM fun w1 M => ?_
 clear HM; have HM := M; clear M
 rw [hke] at HM ⊢
 clear hke
 refine (few_s w1 _ ls 20 (HV.out.ext HM.out.extTo) HL.out).mono ?_
 rintro r w2 ⟨rfl, hE⟩
 rw [HF.out]
 replace HM := Lib.hid (HM.out.ext hE)
 clear hE
 have fM := HM.out.fa
 go_wp2_with fail
 all_goals clear fM
 clear k1 g1 k2 g2
 refine nxt HM fun w3 M => ?_
 clear HM; have HM := M; clear M
 refine (snew_yes w3 3 1 5 3 10 100 raw_newOk).mono ?_
 rintro r w4 ⟨sb, rfl, hU⟩
 rw [raw_new] at hU
 replace HM := Lib.hid (HM.out.newU hU)
 clear hU
 have fM := HM.out.fa
 go_wp2_with fail
 all_goals clear fM
 refine nxt HM fun w5 M => ?_
 clear HM; have HM := M; clear M
 refine (dnew_yes w5 3 1 5 3 10 100 raw_newOk).mono ?_
 rintro r w6 ⟨dv, rfl, hD, hE⟩
 rw [raw_new] at hD
 obtain ⟨a, c, p, q, rfl⟩ := doc_form hD
 replace HM := Lib.hid (HM.out.docNew hD hE)
 clear hD hE
 have fM := HM.out.fa
 go_wp2_with ((with_reducible refine at_list ?_); (((with_reducible refine at_alloc 73 rfl ?_); refine alW 73 rfl rfl (zeroDS _) HM.out ?_; intro w9 n9 M); replace HM := Lib.hid M; clear M; clear fM; have fM := HM.out.fa; refine standing ?_))
 all_goals clear fM
 rename Nat => kw
 refine ⟨?_⟩
 have fM := HM.out.fa
 go_wp2_with ((with_reducible refine at_list ?_); (((with_reducible refine at_store 73 _ _ rfl ?_); refine stW 73 _ _ rfl rfl rfl rfl HM.out infoDS ?_; intro w9 M); replace HM := Lib.hid M; clear M; clear fM; have fM := HM.out.fa))
 all_goals clear fM
 refine (snum_any _ _).mono ?_
 rintro r wq ⟨rfl, hwq⟩
 rw [hwq]
 clear hwq wq
 have fM := HM.out.fa
 go_wp2_with fail
 all_goals clear fM
 have hmost := fewS.len HF.out
 go_loopw [15] (fun i wr => ∃ (k : Nat) (a : Option Addr) (c : Nat) (p : Option Addr) (q : Nat), k ≤ ls.length ∧ i = .int .i64 k ∧ Hid (Mem NoB w wr [cellsR kw 73 (docC a c p q (rawS0.acts (ls.take k))), docsR [(.agg (docC a c p q (rawS0.acts (ls.take k))).toArray, rawS0.acts (ls.take k))], sesR sb (rawS0.acts (ls.take k)), cellsR ke 35 [.int .i64 e.kind, .int .i64 e.member, .int .i64 e.number, .string (bs e.text)]])) (fun i _ => ls.length - (intOf i).toNat)
 case atStart =>
  refine ⟨0, a, c, p, q, Nat.zero_le _, rfl, Lib.hid ?_⟩
  rw [show rawS0.acts (ls.take 0) = rawS0 from rfl]
  exact Mem.sub HM.out (by repeat first | exact Sub.nil | refine Sub.cons (by with_reducible repeat first | exact ph | apply pt) ?_)
 case round =>
  clear HM
  obtain ⟨k, a, c, p, q, hk, rfl, HM⟩ := hrel
  by_cases hlt : k < ls.length
  · have hok : OkSs (rawS0.acts (ls.take k)) k := by
     have := raw_ok0.acts (ls.take k)
     rw [List.length_take, Nat.min_eq_left hk, Nat.zero_add] at this
     exact this
    have hsn := acts_snoc rawS0 ls k hlt
    obtain ⟨g, o, rfl⟩ := HV.out.adr k hlt
    have hld := (HV.out.ext (HM.out.extTo.drew)).ld k hlt
    have hsc := HV.out.ok k hlt
    have hsh := fewS.short HF.out k hlt
    obtain ⟨x, hx⟩ : ∃ x, ls[k] = x := ⟨_, rfl⟩
    rw [hx] at hsn hld hsc hsh
    obtain ⟨s, hs⟩ : ∃ s, rawS0.acts (ls.take k) = s := ⟨_, rfl⟩
    rw [hs] at hok hsn HM
    have HOK := Lib.hid hok
    have HSN := Lib.hid hsn
    have HSC := Lib.hid hsc
    have HSH := Lib.hid hsh
    have g1 : (k : Int) < (ls.length : Int) := by omega
    have g2 : ¬ (k : Int) < 0 := by omega
    clear hok hsn hsc hsh hx hs
    replace HM := Lib.hid (Mem.list' (L1 := [sesR sb s, docsR [(.agg (docC a c p q s).toArray, s)]]) (L := [cellsR kw 73 (docC a c p q s), cellsR ke 35 [.int .i64 e.kind, .int .i64 e.member, .int .i64 e.number, .string (bs e.text)]]) (Mem.sub HM.out (by repeat first | exact Sub.nil | refine Sub.cons (by with_reducible repeat first | exact ph | apply pt) ?_)))
    obtain ⟨As, hAs, hAF, hZ, hblk⟩ := HM.out.step2
    have HKW := Lib.hid (hblk kw _ _ _ (by with_reducible repeat first | exact ph | apply pt))
    obtain ⟨_, hBk⟩ := HM.out.get (r := cellsR kw 73 (docC a c p q s)) pk
    have HBO := Lib.hid hBk.2
    clear hblk hBk
    have fM := HM.out.fa
    go_wp2_with fail
    have hE0 : Keeps (fun k => As k ∨ k = kw) wr wr.drew := (Keeps.refl _ _).drew
    refine wp_region_plan [(0, 0), (3, 1), (0, 2), (0, 3), (0, 4), (3, 5), (2, 6), (0, 7), (0, 8), (0, 9)] [] [6, 10] [10] (ClsK (fun k => As k ∨ k = kw) wr) (by kernel_rfl) (by kernel_rfl) (by kernel_rfl) rfl rfl (ClsK.of hE0) (fun _ _ _ d _ h => by cases d <;> exact h) ?_; simp only [planL, nL]
    refine pM _ rfl rfl ?_; simp only [nP, nE]
    refine pX (v := .agg (docC a c p q s).toArray) rfl (elB 73 _ rfl rfl (HBO.out.ext (Ext.drew0 wr)) Tryz.underlying73 rfl infoDS) ?_; simp only [nP]
    iterate 2 (refine pM _ rfl rfl ?_; simp only [nP, nE])
    refine pR rfl (fun W => by go_simp <;> with_reducible rfl) ?_; simp only [nP]
    refine pX (v := .agg x.cells.toArray) rfl (elM' 79 _ rfl rfl hld) ?_; simp only [nP]
    refine plan_does rfl (fun K hK => ?_)
    go_wp2_with fail
    skip
    refine (act_any wr.drew sb s k HOK.out (by omega) _ [] x HSC.out HSH.out (Res.keeps (listR _) hAs (Ext.drew0 wr) (fun _ _ => noB _)) (tabX_ok.step (show TabX NoB w from ⟨HT.out, noB _, noB _⟩) (HM.out.keepsTo.drew) hAF)).mono ?_
    rintro r w7 ⟨v1, rfl, hU⟩
    have hE7 := hE0.trans (hU.keepsTo.mono (T := fun k => As k ∨ k = kw) fun k _ h => .inl h)
    have hm7 := Mem.unlist (hZ _ _ (hU.pre (Ext.drew0 wr)))
    simp only [List.cons_append, List.nil_append] at hm7
    obtain ⟨a1, c1, p1, q1, rfl⟩ := (hm7.pick (r := docsR [(v1, s.act x), (.agg (docC a c p q s).toArray, s)]) pk).fact fun A h => doc_form (docs_at h (List.mem_cons_self ..))
    replace HM := Lib.hid hm7
    clear hm7 hU hZ
    refine hK _ _ ⟨ClsK.of (by assumption), ?_⟩; clear hK K; try simp only [nP]
    refine pM _ rfl rfl ?_; simp only [nP, nE]
    iterate 2 (refine pR rfl (fun W => by go_simp <;> with_reducible rfl) ?_; simp only [nP])
    refine plan_nil ?_; simp only [tailL, List.filterMap_cons, List.filterMap_nil, nL]; change wpList _ _ _ (_ :: []) _ _
    clear fM
    have fM := HM.out.fa
    go_wp2_with ((with_reducible refine at_list ?_); (((with_reducible refine at_store 73 _ _ rfl ?_); refine stW 73 _ _ rfl rfl rfl rfl HM.out infoDS ?_; intro w9 M); replace HM := Lib.hid M; clear M; clear fM; have fM := HM.out.fa))
    all_goals clear fM
    go_roundw
    case rel =>
     refine ⟨k + 1, a1, c1, p1, q1, by omega, by go_num, Lib.hid ?_⟩
     rw [HSN.out]
     exact Mem.sub (docs_sub (m := [(.agg (docC a1 c1 p1 q1 (s.act x)).toArray, s.act x)]) (HM.out.pick (r := docsR [(.agg (docC a1 c1 p1 q1 (s.act x)).toArray, s.act x), (.agg (docC a c p q s).toArray, s)]) pk) (by simp)) Go.Proofs.YtoadjbgpfihoiaaGreatDoor.sb
    case measure => simp [intOf]; omega
  · obtain rfl : k = ls.length := by omega
    rw [List.take_length] at HM
    have hok : OkSs (rawS0.acts ls) ls.length := by
     have := raw_ok0.acts ls
     rw [Nat.zero_add] at this
     exact this
    obtain ⟨s, hs⟩ : ∃ s, rawS0.acts ls = s := ⟨_, rfl⟩
    rw [hs] at hok HM
    clear hs hk
    obtain ⟨⟨s1, n1⟩, q1⟩ : ∃ z, s.offer index e t = z := ⟨_, rfl⟩
    obtain ⟨⟨s2, n2⟩, q2⟩ : ∃ z, s1.reach index = z := ⟨_, rfl⟩
    obtain ⟨⟨s3, n3⟩, q3⟩ : ∃ z, s2.ack index now = z := ⟨_, rfl⟩
    obtain ⟨⟨s4, n4⟩, q4⟩ : ∃ z, s3.hear now = z := ⟨_, rfl⟩
    obtain ⟨⟨s5, n5⟩, q5⟩ : ∃ z, s4.close index = z := ⟨_, rfl⟩
    have o1 : OkSs s1 (ls.length + 1) := by have := hok.offer index e t; rw [q1] at this; exact this
    have o2 : OkSs s2 (ls.length + 1) := by have := o1.reach index; rw [q2] at this; exact this
    have o3 : OkSs s3 (ls.length + 1) := by have := o2.ack index now; rw [q3] at this; exact this
    have o4 : OkSs s4 (ls.length + 1) := by have := o3.hear now; rw [q4] at this; exact this
    have o5 : OkSs s5 (ls.length + 1) := by have := o4.close index; rw [q5] at this; exact this
    have HOK := Lib.hid hok
    have HO5 := Lib.hid o5
    have HQ1 := Lib.hid q1
    have HQ2 := Lib.hid q2
    have HQ3 := Lib.hid q3
    have HQ4 := Lib.hid q4
    have HQ5 := Lib.hid q5
    clear hok o1 o2 o3 o4 o5 q1 q2 q3 q4 q5 hlt
    obtain ⟨_, hBk⟩ := HM.out.get (r := cellsR kw 73 (docC a c p q s)) pk
    have HBO := Lib.hid hBk.2
    clear hBk
    have fM := HM.out.fa
    go_wp2_with fail
    have hE0 : Keeps (fun k => ¬ k = kw) wr wr.drew := (Keeps.refl _ _).drew
    refine wp_region_plan [(0, 0), (0, 1), (1, 3), (0, 4), (2, 2)] [3] [2, 5, 6] [5, 6] (ClsK (fun k => ¬ k = kw) wr) (by kernel_rfl) (by kernel_rfl) (by kernel_rfl) rfl rfl (ClsK.of hE0) (fun _ _ _ d _ h => by cases d <;> exact h) ?_; simp only [planL, nL]
    iterate 2 (refine pM _ rfl rfl ?_; simp only [nP, nE])
    refine pK (v := .agg (docC a c p q s).toArray) rfl (fun y => elB 73 _ rfl rfl (HBO.out.keeps y.h (fun h => h rfl)) Tryz.underlying73 rfl infoDS) ?_; simp only [nP]
    refine pM _ rfl rfl ?_; simp only [nP, nE]
    refine plan_does rfl (fun K hK => ?_)
    go_wp2_with fail
    replace HM := Lib.hid HM.out.drew
    obtain ⟨Ahs, hs⟩ := HM.out.get (r := sesR sb s) pk
    refine (silent_any wr.drew sb s now hs HOK.out.heard.1 HNI.out).mono ?_
    rintro r w7 ⟨rfl, hE⟩
    have hE7 := hE0.ext hE
    replace HM := Lib.hid (HM.out.ext hE)
    clear hE hs
    refine hK _ _ ⟨ClsK.of (by assumption), ?_⟩; clear hK K; try simp only [nP]
    refine plan_nil ?_; simp only [tailL, List.filterMap_cons, List.filterMap_nil, nL]; change wpList _ _ _ (_ :: _ :: []) _ _
    go_wp2_with fail
    skip
    obtain ⟨Ahd, hd⟩ := HM.out.get (r := docsR [(.agg (docC a c p q s).toArray, s)]) pk
    refine (dsilent_any _ _ s now (docs_at hd (List.mem_cons_self ..)) HOK.out.heard.1 HNI.out).mono ?_
    rintro r w8 ⟨rfl, hE⟩
    have hE8 := hE7.ext hE
    replace HM := Lib.hid (HM.out.ext hE)
    clear hE hd
    clear fM
    clear hE0 hE7 hE8
    have fM := HM.out.fa
    go_wp2_with ((with_reducible refine at_list ?_); ((with_reducible refine at_load 73 _ rfl ?_); refine ldW 73 _ rfl rfl rfl HM.out Tryz.underlying73 rfl infoDS ?_))
    all_goals clear fM
    refine nxt HM fun w9 M => ?_
    clear HM; have HM := M; clear M
    obtain ⟨C, hC, hS⟩ := (HM.out.pick (r := docsR [(.agg (docC a c p q s).toArray, s)]) pk).step
    refine (doffer_any w9 w9 (HT.out.ext HM.out.extTo) (Keeps.refl _ _) _ s ls.length HOK.out (by omega) index e t (by have := H1.out; omega) (by have := H2.out; omega) (docs_at hC (List.mem_cons_self ..)) hC.2).mono ?_
    rintro r wz ⟨vz, rfl, hp⟩
    rw [HQ1.out] at hp ⊢
    obtain ⟨a1, cq, pq, qq, rfl⟩ := doc_form hp.1
    replace HM := Lib.hid (docs_sub (m := [(.agg (docC a1 cq pq qq s1).toArray, s1)]) (hS _ _ (docs_more hC hp)) (by simp))
    clear hC hS hp
    clear C
    have fM := HM.out.fa
    go_wp2_with ((with_reducible refine at_list ?_); (((with_reducible refine at_alloc 73 rfl ?_); refine alW 73 rfl rfl (zeroDS _) HM.out ?_; intro w9 n9 M); replace HM := Lib.hid M; clear M; clear fM; have fM := HM.out.fa; refine standing ?_))
    all_goals clear fM
    rename Nat => kn
    refine ⟨?_⟩
    have fM := HM.out.fa
    go_wp2_with ((with_reducible refine at_list ?_); (((with_reducible refine at_store 73 _ _ rfl ?_); refine stW 73 _ _ rfl rfl rfl rfl HM.out infoDS ?_; intro w9 M); replace HM := Lib.hid M; clear M; clear fM; have fM := HM.out.fa))
    all_goals clear fM
    refine nxt HM fun w10 M => ?_
    clear HM; have HM := M; clear M
    obtain ⟨A', hA', hAF, hZ, hblk⟩ := (HM.out.pick (r := sesR sb s) pk).step2
    refine (offer_any w10 sb s ls.length HOK.out (by omega) index e t HEK.out (by have := H1.out; omega) (by have := H2.out; omega) hA' (tabX_ok.step (show TabX NoB w from ⟨HT.out, noB _, noB _⟩) HM.out.keepsTo hAF)).mono ?_
    rintro r wz ⟨rfl, hU⟩
    rw [HQ1.out] at hU ⊢
    replace HM := Lib.hid (hZ _ _ hU)
    clear hA' hAF hZ hblk hU
    clear A'
    have fM := HM.out.fa
    go_wp2_with fail
    all_goals clear fM
    refine (snum_any _ _).mono ?_
    rintro r wq ⟨rfl, hwq⟩
    rw [hwq]
    clear hwq wq
    have fM := HM.out.fa
    go_wp2_with ((with_reducible refine at_list ?_); ((with_reducible refine at_load 73 _ rfl ?_); refine ldW 73 _ rfl rfl rfl HM.out Tryz.underlying73 rfl infoDS ?_))
    all_goals clear fM
    refine nxt HM fun w11 M => ?_
    clear HM; have HM := M; clear M
    obtain ⟨C, hC, hS⟩ := (HM.out.pick (r := docsR [(.agg (docC a1 cq pq qq s1).toArray, s1)]) pk).step
    refine (dreach_any w11 _ s1 index (docs_at hC (List.mem_cons_self ..))).mono ?_
    rintro r wz ⟨vz, rfl, hp⟩
    rw [HQ2.out] at hp ⊢
    obtain ⟨a2, cq, pq, qq, rfl⟩ := doc_form hp.1
    replace HM := Lib.hid (docs_sub (m := [(.agg (docC a2 cq pq qq s2).toArray, s2)]) (hS _ _ (docs_more hC hp)) (by simp))
    clear hC hS hp
    clear C
    have fM := HM.out.fa
    go_wp2_with ((with_reducible refine at_list ?_); (((with_reducible refine at_store 73 _ _ rfl ?_); refine stW 73 _ _ rfl rfl rfl rfl HM.out infoDS ?_; intro w9 M); replace HM := Lib.hid M; clear M; clear fM; have fM := HM.out.fa))
    all_goals clear fM
    refine nxt HM fun w12 M => ?_
    clear HM; have HM := M; clear M
    obtain ⟨A', hA', hAF, hZ, hblk⟩ := (HM.out.pick (r := sesR sb s1) pk).step2
    refine (reach_any w12 sb s1 index hA').mono ?_
    rintro r wz ⟨rfl, hU⟩
    rw [HQ2.out] at hU ⊢
    replace HM := Lib.hid (hZ _ _ hU)
    clear hA' hAF hZ hblk hU
    clear A'
    have fM := HM.out.fa
    go_wp2_with fail
    all_goals clear fM
    refine (snum_any _ _).mono ?_
    rintro r wq ⟨rfl, hwq⟩
    rw [hwq]
    clear hwq wq
    have fM := HM.out.fa
    go_wp2_with ((with_reducible refine at_list ?_); ((with_reducible refine at_load 73 _ rfl ?_); refine ldW 73 _ rfl rfl rfl HM.out Tryz.underlying73 rfl infoDS ?_))
    all_goals clear fM
    refine nxt HM fun w13 M => ?_
    clear HM; have HM := M; clear M
    obtain ⟨C, hC, hS⟩ := (HM.out.pick (r := docsR [(.agg (docC a2 cq pq qq s2).toArray, s2)]) pk).step
    refine (dack_any w13 _ s2 index now (docs_at hC (List.mem_cons_self ..))).mono ?_
    rintro r wz ⟨vz, rfl, hp⟩
    rw [HQ3.out] at hp ⊢
    obtain ⟨a3, cq, pq, qq, rfl⟩ := doc_form hp.1
    replace HM := Lib.hid (docs_sub (m := [(.agg (docC a3 cq pq qq s3).toArray, s3)]) (hS _ _ (docs_more hC hp)) (by simp))
    clear hC hS hp
    clear C
    have fM := HM.out.fa
    go_wp2_with ((with_reducible refine at_list ?_); (((with_reducible refine at_store 73 _ _ rfl ?_); refine stW 73 _ _ rfl rfl rfl rfl HM.out infoDS ?_; intro w9 M); replace HM := Lib.hid M; clear M; clear fM; have fM := HM.out.fa))
    all_goals clear fM
    refine nxt HM fun w14 M => ?_
    clear HM; have HM := M; clear M
    obtain ⟨A', hA', hAF, hZ, hblk⟩ := (HM.out.pick (r := sesR sb s2) pk).step2
    refine (ack_any w14 sb s2 index now hA').mono ?_
    rintro r wz ⟨rfl, hU⟩
    rw [HQ3.out] at hU ⊢
    replace HM := Lib.hid (hZ _ _ hU)
    clear hA' hAF hZ hblk hU
    clear A'
    have fM := HM.out.fa
    go_wp2_with fail
    all_goals clear fM
    refine (snum_any _ _).mono ?_
    rintro r wq ⟨rfl, hwq⟩
    rw [hwq]
    clear hwq wq
    have fM := HM.out.fa
    go_wp2_with ((with_reducible refine at_list ?_); ((with_reducible refine at_load 73 _ rfl ?_); refine ldW 73 _ rfl rfl rfl HM.out Tryz.underlying73 rfl infoDS ?_))
    all_goals clear fM
    refine nxt HM fun w15 M => ?_
    clear HM; have HM := M; clear M
    obtain ⟨C, hC, hS⟩ := (HM.out.pick (r := docsR [(.agg (docC a3 cq pq qq s3).toArray, s3)]) pk).step
    refine (dhear_any w15 _ s3 now (docs_at hC (List.mem_cons_self ..))).mono ?_
    rintro r wz ⟨vz, rfl, hp⟩
    rw [HQ4.out] at hp ⊢
    obtain ⟨a4, cq, pq, qq, rfl⟩ := doc_form hp.1
    replace HM := Lib.hid (docs_sub (m := [(.agg (docC a4 cq pq qq s4).toArray, s4)]) (hS _ _ (docs_more hC hp)) (by simp))
    clear hC hS hp
    clear C
    have fM := HM.out.fa
    go_wp2_with ((with_reducible refine at_list ?_); (((with_reducible refine at_store 73 _ _ rfl ?_); refine stW 73 _ _ rfl rfl rfl rfl HM.out infoDS ?_; intro w9 M); replace HM := Lib.hid M; clear M; clear fM; have fM := HM.out.fa))
    all_goals clear fM
    refine nxt HM fun w16 M => ?_
    clear HM; have HM := M; clear M
    obtain ⟨A', hA', hAF, hZ, hblk⟩ := (HM.out.pick (r := sesR sb s3) pk).step2
    refine (hear_any w16 sb s3 now hA').mono ?_
    rintro r wz ⟨rfl, hU⟩
    rw [HQ4.out] at hU ⊢
    replace HM := Lib.hid (hZ _ _ hU)
    clear hA' hAF hZ hblk hU
    clear A'
    have fM := HM.out.fa
    go_wp2_with fail
    all_goals clear fM
    refine (snum_any _ _).mono ?_
    rintro r wq ⟨rfl, hwq⟩
    rw [hwq]
    clear hwq wq
    have fM := HM.out.fa
    go_wp2_with ((with_reducible refine at_list ?_); ((with_reducible refine at_load 73 _ rfl ?_); refine ldW 73 _ rfl rfl rfl HM.out Tryz.underlying73 rfl infoDS ?_))
    all_goals clear fM
    refine nxt HM fun w17 M => ?_
    clear HM; have HM := M; clear M
    obtain ⟨C, hC, hS⟩ := (HM.out.pick (r := docsR [(.agg (docC a4 cq pq qq s4).toArray, s4)]) pk).step
    refine (dclose_any w17 _ s4 index (docs_at hC (List.mem_cons_self ..))).mono ?_
    rintro r wz ⟨vz, rfl, hp⟩
    rw [HQ5.out] at hp ⊢
    obtain ⟨a5, cq, pq, qq, rfl⟩ := doc_form hp.1
    replace HM := Lib.hid (docs_sub (m := [(.agg (docC a5 cq pq qq s5).toArray, s5)]) (hS _ _ (docs_more hC hp)) (by simp))
    clear hC hS hp
    clear C
    have fM := HM.out.fa
    go_wp2_with ((with_reducible refine at_list ?_); (((with_reducible refine at_store 73 _ _ rfl ?_); refine stW 73 _ _ rfl rfl rfl rfl HM.out infoDS ?_; intro w9 M); replace HM := Lib.hid M; clear M; clear fM; have fM := HM.out.fa))
    all_goals clear fM
    refine nxt HM fun w18 M => ?_
    clear HM; have HM := M; clear M
    obtain ⟨_, hBk⟩ := HM.out.get (r := cellsR kn 73 (docC a5 cq pq qq s5)) pk
    have HBN := Lib.hid hBk.2
    clear hBk
    have fM := HM.out.fa
    go_wp2_with fail
    have hE0 : Keeps (fun k => ¬ k = kn) w18 w18.drew := (Keeps.refl _ _).drew
    refine wp_region_plan [(0, 0), (0, 1), (0, 4), (2, 2), (2, 3), (0, 5), (0, 6), (0, 7), (1, 9), (2, 8)] [9] [2, 3, 8, 10, 11, 12, 13, 14, 15, 16] [10, 11, 12, 13, 14, 15, 16] (ClsK (fun k => ¬ k = kn) w18) (by kernel_rfl) (by kernel_rfl) (plan3 [0, 0, 3, 7, 0, 31, 63, 127, 255, 127, 1023, 2047, 4095, 8191, 16383, 32767, 65535] (by kernel_rfl) rfl (by kernel_rfl)) rfl rfl (ClsK.of hE0) (fun _ _ _ d _ h => by cases d <;> exact h) ?_; simp only [planL, nL]
    iterate 3 (refine pM _ rfl rfl ?_; simp only [nP, nE])
    refine plan_does rfl (fun K hK => ?_)
    go_wp2_with fail
    replace HM := Lib.hid HM.out.drew
    obtain ⟨A', hA', hAF, hZ, hblk⟩ := (HM.out.pick (r := sesR sb s4) pk).step2
    have hn := hblk kn _ _ _ (by with_reducible repeat first | exact ph | apply pt)
    refine (close_any w18.drew sb s4 index hA' (tabX_ok.step (show TabX NoB w from ⟨HT.out, noB _, noB _⟩) HM.out.keepsTo hAF)).mono ?_
    rintro r wz ⟨rfl, hU⟩
    rw [HQ5.out] at hU ⊢
    have hE1 := hE0.then hU.keepsTo (fun i _ h e => hn (e ▸ h))
    replace HM := Lib.hid (hZ _ _ hU)
    clear hA' hAF hZ hblk hn hU
    clear A'
    refine hK _ _ ⟨ClsK.of (by assumption), ?_⟩; clear hK K; try simp only [nP]
    refine plan_does rfl (fun K hK => ?_)
    go_wp2_with fail
    skip
    refine (snum_any _ _).mono ?_
    rintro r wq ⟨rfl, hwq⟩
    rw [hwq]
    clear hwq wq
    refine hK _ _ ⟨ClsK.of (by assumption), ?_⟩; clear hK K; try simp only [nP]
    iterate 3 (first | (refine pM _ rfl rfl ?_; simp only [nP, nE]) | (refine pR (by rfl) (fun W => by go_simp <;> with_reducible rfl) ?_; simp only [nP]))
    refine pK (v := .agg (docC a5 cq pq qq s5).toArray) rfl (fun y => elB 73 _ rfl rfl (HBN.out.keeps y.h (fun h => h rfl)) Tryz.underlying73 rfl infoDS) ?_; simp only [nP]
    refine plan_does rfl (fun K hK => ?_)
    go_wp2_with fail
    skip
    obtain ⟨Ahs, hs⟩ := HM.out.get (r := sesR sb s5) pk
    refine (sst_any _ sb s5 _ HO5.out hs).mono ?_
    rintro r wy ⟨rfl, hE⟩
    have hE2 := hE1.ext hE
    replace HM := Lib.hid (HM.out.ext hE)
    clear hE hs
    refine hK _ _ ⟨ClsK.of (by assumption), ?_⟩; clear hK K; try simp only [nP]
    refine plan_nil ?_; simp only [tailL, List.filterMap_cons, List.filterMap_nil, nL]; change wpList _ _ _ (_ :: _ :: _ :: _ :: _ :: _ :: _ :: []) _ _
    go_wp2_with fail
    skip
    obtain ⟨Ahd, hd⟩ := HM.out.get (r := docsR [(.agg (docC a5 cq pq qq s5).toArray, s5)]) pk
    refine (dst_any _ _ s5 _ HO5.out (docs_at hd (List.mem_cons_self ..))).mono ?_
    rintro r wx ⟨rfl, hE⟩
    have hE3 := hE2.ext hE
    replace HM := Lib.hid (HM.out.ext hE)
    clear hE hd
    go_wp2_with fail
    skip
    refine (works_any _ (HT.out.ext HM.out.extTo)).mono ?_
    rintro r wv ⟨rfl, hE⟩
    have hE4 := hE3.ext hE
    replace HM := Lib.hid (HM.out.ext hE)
    clear hE
    clear fM
    have fM := HM.out.fa
    go_wp2_with fail
    all_goals clear fM
    go_ret
    exact ⟨rfl, HM.out.extTo⟩
theorem raws_walk {A : Nat → Prop} (w : World) (v : Value) (ls : List Sc) (index now : Int) (e : En) (t : List UInt8) (h : Scs w A v ls) (hl : ls.length ≤ 9223372036854775807) (hek : I64 e.kind) (hni : I64 now) (hT : Tabs w) :
 Calls Tryz.prog 5 #[v, .int .i64 index, .int .i64 now, .agg e.cells.toArray, .string (bs t)] w fun r w' => r = .returned (.bool true) ∧ Ext w w' := by
 cases hf : fewS ls 20
 · exact raws_few w v ls index now e t h hl hek hni hT hf
 by_cases h1 : 300 < e.text.length
 · exact raws_long w v ls index now e t h hl hek hni hT hf h1
 by_cases h2 : 300 < t.length
 · exact raws_tok w v ls index now e t h hl hek hni hT hf h1 h2
 exact raws_in w v ls index now e t h hl hek hni hT hf h1 h2
end
section
open Go.RowKit Go.ChangeShapes Go.WideShapes
section
variable {H : Type} {enc : TypeId × Value → H} {w : World}
theorem open_en {v : Value} {d : DataW H} {p : List MemPlace} {b : Nat} (hv : Value.okWide Tryz.prog w .any b 35 v) (h : DataW.Trod enc Tryz.prog w 0 (fun _ => true) true 35 v d p) :
 ∃ e : En, v = .agg e.cells.toArray ∧ I64 e.kind := by
 obtain ⟨fuel, hf⟩ := h
 obtain ⟨e, h1, h2, -⟩ := rd_en fuel _ _ hf
 obtain ⟨cs, rfl, -⟩ := okWide_struct Tryz.underlying35 hv
 refine ⟨e, ?_, h2⟩
 have h5 : cs.toList = e.cells := h1
 obtain ⟨l⟩ := cs
 simp only at h5
 rw [h5]
theorem open_str {v : Value} {d : DataW H} {p : List MemPlace} {b : Nat} (hv : Value.okWide Tryz.prog w .any b 9 v) (h : DataW.Trod enc Tryz.prog w 0 (fun _ => true) true 9 v d p) :
 ∃ t : List UInt8, v = .string (bs t) := by
 obtain ⟨s, rfl, -⟩ := Go.ChangeMaps.open_string Tryz.underlying9 hv h
 exact ⟨s.data.toList, by rw [bs_of]⟩
end
end
end Go.Proofs.YtoadjbgpfihoiaaGreatDoor
