/- Texts STaken, SNone, SNoneB, SNoneC, SNoneD, SNoneE, SNoneF, SWkP, one behind the other. Conditions: as each says. -/
import Derived.Test.YtoadjbgpfihoiaaGreatDoorPlZU
set_option linter.unusedVariables false
set_option linter.unusedSimpArgs false
set_option maxHeartbeats 8000000
set_option maxRecDepth 100000
namespace Go.Proofs.YtoadjbgpfihoiaaGreatDoor
open Go.RowKit
theorem OkSs.gives {s : Ss} {n : Nat} (h : OkSs s n) : (s.take.2.getD []).length ≤ 484 := by
 unfold Ss.take; split
 · cases hb : s.bye with
   | none => simp
   | some b => exact (h.byeL b hb).1
 split
 · simp
 split
 · simp
 · next x r e => exact h.its x (by rw [e]; exact List.mem_cons_self ..)
def takenL (s : Ss) : Int := if s.take.2.isSome = false then -1 else if (readL (s.take.2.getD [])).2.2 = 0 ∧ (readL (s.take.2.getD [])).1.kind = 9 then (readL (s.take.2.getD [])).1.index else -2
theorem staken_any {A : Nat → Prop} (w : World) (sb : Nat) (s : Ss) (n : Nat) (hok : OkSs s n) (h : (sesR sb s).p A w) (hX : TabX A w) :
 Calls Tryz.prog 75 #[.pointer (some ⟨sb, 0, none⟩)] w fun e w' => e = .returned (.int .i64 (takenL s)) ∧ Upd A w w' (sesR sb s.take.1) := by
 have HG := Hd hok.gives; have hTL : takenL s = if s.take.2.isSome = false then -1 else if (readL (s.take.2.getD [])).2.2 = 0 ∧ (readL (s.take.2.getD [])).1.kind = 9 then (readL (s.take.2.getD [])).1.index else -2 := rfl
 obtain ⟨b, hb⟩ : ∃ b, s.take.2.isSome = b := ⟨_, rfl⟩; rw [hb] at hTL; have HTL := Hd hTL; clear hTL; go_enter Tryz.func75, Tryz.ntmps75
 go_wp2_with fail; refine (stake_any w sb s n hok h).mono ?_; rintro e w1 ⟨v, rfl, hU, hv⟩; obtain ⟨a, c, rfl⟩ := hv.len; rw [hb]; have HM := Hd (show Mem A w w1 [sesR sb s.take.1] from let ⟨A', p, k, q⟩ := hU; ⟨k, A', SepL.one p, q⟩); have HV := Hd hv; have HT := Hd (tabX_ok.step (A' := A) hX hU.keepsTo (fun _ h => .inl h)).1; clear hX hU hv hok h hb; cases b
 case false =>
  go_wp2_with fail; go_ret; exact ⟨by rw [HTL.out]; rfl, (Mem.sub HM.out (L' := [sesR sb s.take.1]) sbI).upd⟩
 go_wp2_with fail; refine (fread_any w1 w1 HT.out (Keeps.refl _ _) _ (s.take.2.getD []) HV.out (fun k hk => hk.2) (Nat.le_trans HG.out (by decide))).mono ?_; rintro e w2 ⟨rfl, hE2⟩; replace HM := Hd (HM.out.ext hE2); clear hE2; obtain ⟨⟨x, m, no⟩, hz⟩ : ∃ z, readL (s.take.2.getD []) = z := ⟨_, rfl⟩; rw [hz] at HTL ⊢; dsimp only at HTL ⊢; clear hz; unfold Sd.v Sd.cells; by_cases h1 : no = 0
 · have d1 : (no != 0) = false := by simpa using h1
   by_cases h2 : x.kind = 9
   · have d2 : (x.kind != 9) = false := by simpa using h2
     have HL := Hd (show takenL s = x.index by rw [HTL.out, if_neg (by decide), if_pos ⟨h1, h2⟩]); clear h1 h2; have fM := HM.out.fa; go_wp2_with fail; all_goals clear fM
     refine cret (snum_any _ _) ?_; have fM := HM.out.fa; go_wp2_with fail; all_goals clear fM
     go_ret; exact ⟨by rw [HL.out]; rfl, (Mem.sub (HM.out.ext (by repeat (first | exact Keeps.refl _ _ | apply Keeps.alloc))) (L' := [sesR sb s.take.1]) sbI).upd⟩
   · have d2 : (x.kind != 9) = true := by simpa using h2
     have HL := Hd (show takenL s = -2 by rw [HTL.out, if_neg (by decide), if_neg (fun h => h2 h.2)]); clear h1 h2; have fM := HM.out.fa; go_wp2_with fail; all_goals clear fM
     refine cret (snum_any _ _) ?_; have fM := HM.out.fa; go_wp2_with fail; all_goals clear fM
     go_ret; exact ⟨by rw [HL.out]; rfl, (Mem.sub (HM.out.ext (by repeat (first | exact Keeps.refl _ _ | apply Keeps.alloc))) (L' := [sesR sb s.take.1]) sbI).upd⟩
 · have d1 : (no != 0) = true := by simpa using h1
   have HL := Hd (show takenL s = -2 by rw [HTL.out, if_neg (by decide), if_neg (fun h => h1 h.1)]); clear h1; have fM := HM.out.fa; go_wp2_with fail; all_goals clear fM
   refine cret (snum_any _ _) ?_; have fM := HM.out.fa; go_wp2_with fail; all_goals clear fM
   go_ret; exact ⟨by rw [HL.out]; rfl, (Mem.sub (HM.out.ext (by repeat (first | exact Keeps.refl _ _ | apply Keeps.alloc))) (L' := [sesR sb s.take.1]) sbI).upd⟩
def NoS (w : World) (p : Option Addr) : Prop := p = none ∨ ∃ b, p = some ⟨b, 0, none⟩ ∧ w.cell? ⟨b, 0, none⟩ = some (.pointer none)
theorem NoS.ext {w w' : World} {p : Option Addr} (h : NoS w p) (e : Ext w w') : NoS w' p := h.imp id fun ⟨b, h1, h2⟩ => ⟨b, h1, e.cell h2⟩
theorem snone_any (w : World) (p : Option Addr) (h : NoS w p) : Calls Tryz.prog 84 #[.pointer p] w fun e w' => e = .returned (.bool true) ∧ w' = w := by
 rcases h with rfl | ⟨b, rfl, hb⟩
 · exact snone_nil w
 · exact snone_zero w b hb
theorem nsilent_any (w : World) (p : Option Addr) (now : Int) (h : NoS w p) : Calls Tryz.prog 27 #[.pointer p, .int .i64 now] w fun e w' => e = .returned (.bool false) ∧ Ext w w' := by
 have HM := Hd (Mem.start0 w); have HN := Hd h; clear h; go_enter Tryz.func27, Tryz.ntmps27
 go_wp2_with fail; have hE0 : Keeps NoB w w.drew := (Keeps.refl _ _).drew; refine rgE [(0, 0), (2, 1), (0, 2), (0, 3), (0, 4), (0, 5), (0, 6), (0, 7), (1, 8), (0, 9), (0, 10), (0, 11), (0, 12), (0, 13), (0, 14), (0, 15), (0, 16), (1, 17), (0, 18), (0, 19), (0, 20), (0, 21), (0, 22), (0, 23), (0, 24), (0, 25), (1, 26), (0, 27), (0, 28), (0, 29), (0, 30), (1, 31), (0, 32), (0, 33), (0, 34)] [8, 17, 26, 31] [1] [] ?_; simp only [planL, nL]; refine pM _ rfl rfl ?_; simp only [nP, nE]; refine plan_does rfl (fun K hK => ?_); go_wp2_with fail; refine cret (snone_any _ _ (HN.out.ext (Ext.drew0 w))) ?_; refine hK _ _ ⟨ClsE.of (by assumption), ?_⟩; clear hK K; try simp only [nP]
 refine pR rfl (fun W => by go_simp <;> with_reducible rfl) ?_; simp only [nP]; refine pM _ rfl rfl ?_; simp only [nP, nE]; refine plan_skip rfl ?_; simp only [nP]; iterate 3 ((refine plan_skip rfl ?_; simp only [nP]))
 iterate 4 (first | (refine plan_skip rfl ?_; simp only [nP]) | (refine pM _ rfl rfl ?_; simp only [nP, nE]) | (refine pR (by rfl) (fun W => by go_simp <;> with_reducible rfl) ?_; simp only [nP]))
 iterate 2 ((refine plan_skip rfl ?_; simp only [nP]))
 iterate 3 ((refine plan_skip rfl ?_; simp only [nP]))
 iterate 4 (first | (refine plan_skip rfl ?_; simp only [nP]) | (refine pM _ rfl rfl ?_; simp only [nP, nE]) | (refine pR (by rfl) (fun W => by go_simp <;> with_reducible rfl) ?_; simp only [nP]))
 iterate 2 ((refine plan_skip rfl ?_; simp only [nP]))
 iterate 3 ((refine plan_skip rfl ?_; simp only [nP]))
 iterate 3 (refine plan_skip rfl ?_; simp only [nP])
 iterate 2 ((refine plan_skip rfl ?_; simp only [nP]))
 iterate 4 (first | (refine plan_skip rfl ?_; simp only [nP]) | (refine pA _ rfl rfl ?_; simp only [nP, nE]) | (refine pR (by rfl) (fun W => by go_simp <;> with_reducible rfl) ?_; simp only [nP]))
 refine plan_nil ?_; simp only [tailL, List.filterMap_nil]; go_wp2_with fail; go_ret; exact ⟨rfl, Ext.drew0 w⟩
theorem ncopy_any (w : World) (p : Option Addr) (h : NoS w p) : Calls Tryz.prog 45 #[.pointer p] w fun e w' => e = .returned (.pointer none) ∧ Ext w w' := by
 go_enter Tryz.func45, Tryz.ntmps45
 go_wp2_with fail; refine cret (snone_any _ _ h) ?_; go_wp2_with fail; go_ret; exact ⟨rfl, Keeps.refl _ _⟩
theorem nsame_any (w : World) (p q : Option Addr) (h : NoS w p) (h' : NoS w q) : Calls Tryz.prog 46 #[.pointer p, .pointer q] w fun e w' => e = .returned (.bool true) ∧ Ext w w' := by
 go_enter Tryz.func46, Tryz.ntmps46
 go_wp2_with fail; refine cret (snone_any _ _ h) ?_; go_wp2_with fail; refine cret (snone_any _ _ h) ?_; go_wp2_with fail; refine cret (snone_any _ _ h') ?_; go_wp2_with fail; go_ret; exact ⟨rfl, Keeps.refl _ _⟩
def ArgG (w : World) (lv : Value) (x : List Flt) : Prop := (x = [] ∧ lv = .slice none 0 0) ∨ ∃ lb q, x = [q] ∧ lv = .slice (some ⟨lb, 0, none⟩) 1 1 ∧ Box w lb 158 (fltE.cells q)
theorem ArgG.ext {w w' : World} {lv : Value} {x : List Flt} (h : ArgG w lv x) (e : Ext w w') : ArgG w' lv x := h.imp id fun ⟨lb, q, h1, h2, h3⟩ => ⟨lb, q, h1, h2, h3.ext e⟩
theorem add_flg {F : Nat → Prop} {w0 w : World} {L : List Res} {v : Value} {l : List Flt} (ty : TypeId) (h : Mem F w0 w (rowR fltE v l :: L)) (lv : Value) (x : List Flt) (hx : ArgG w lv x) (hl : l.length ≤ 100) :
 ∃ v' w', (Builtin.append_ #[210, 210] ty #[v, lv]).run Tryz.prog w = .ok v' w' ∧ Mem F w0 w' (rowR fltE v' (l ++ x) :: L) := by
 obtain ⟨i0, hi, hz0, hz1, hz2⟩ := info_parts infoFlt; rcases hx with ⟨rfl, rfl⟩ | ⟨lb, q, rfl, rfl, hc⟩
 · obtain ⟨v', w', hr, hm⟩ := Mem.append (P := Tryz.prog) 210 210 ty 158 i0 _ 2 16 Tryz.underlying210 hi hz0 hz1 hz2 rfl h
    (.slice none 0 0) 0 [] (SrcCells.toSrc (.inl ⟨rfl, rfl, rfl⟩) Tryz.underlying210 rfl (fun u hu => by cases hu)) (by simp [maxLen]; omega) (by omega)
   refine ⟨v', w', hr, ?_⟩; rw [List.append_nil]; unfold rowR; rw [Nat.add_zero, List.append_nil] at hm; exact hm
 · obtain ⟨v', w', hr, hm⟩ := Mem.rowAdd (P := Tryz.prog) 210 210 ty 158 i0 _ 16 Tryz.underlying210 Tryz.underlying210 hi hz0 hz1 hz2 rfl h lb 1 q hc.reads.1 (by simp [maxLen]; omega) (by omega)
   exact ⟨v', w', hr, hm⟩
theorem does_none (w : World) (p : Option Addr) (mf df : Nat) (m1 m2 d1 d2 : Array Value) (lv : Value) (x : List Flt) (hxl : x.length ≤ 1) (h : NoS w p) (hx : ArgG w lv x) :
 Calls Tryz.prog 88 #[.pointer p, .func (.func mf) m1 m2, .func (.func df) d1 d2, lv] w fun e w' => e = .returned (.int .i64 1) ∧ Ext w w' := by
 have HM := Hd (Mem.start0 w); have HN := Hd h; have HX := Hd hx; clear h hx; go_enter Tryz.func88, Tryz.ntmps88
 have fM := HM.out.fa; go_wp2_with (at_builtin; refine standing ?_); clear fM; obtain ⟨k4, hk4⟩ : ∃ k, w.heap.size = k := ⟨_, rfl⟩; obtain ⟨k5, hk5⟩ : ∃ k, w.heap.size + 1 = k := ⟨_, rfl⟩; obtain ⟨k6, hk6⟩ : ∃ k, w.heap.size + 1 + 1 = k := ⟨_, rfl⟩; refine nxt HM fun w1 M => ?_
 replace HM := M; clear M; rw [hk6] at HM ⊢; rw [hk5] at HM ⊢; rw [hk4] at HM ⊢; clear hk4 hk5 hk6; have hr1 := Mem.rowMade (E := fltE) (l := [⟨84, #[.pointer p], #[], 1⟩, ⟨147, #[], #[.pointer (some ⟨k5, 0, none⟩)], 2⟩, ⟨148, #[], #[.pointer (some ⟨k4, 0, none⟩)], 360⟩]) HM.out (by simp) (by decide); obtain ⟨v2, w2, hr, hm⟩ := add_flg 210 hr1 lv x (HX.out.ext HM.out.extTo) (by simp); replace HM := Hd hm; clear hm hr1; refine ⟨?_⟩; refine wpList_append_ran rfl _ _ hr rfl rfl rfl ?_; clear hr; obtain ⟨fs, hfs⟩ : ∃ fs : List Flt, [⟨147, #[], #[.pointer (some ⟨k5, 0, none⟩)], 2⟩, ⟨148, #[], #[.pointer (some ⟨k4, 0, none⟩)], 360⟩] ++ x = fs := ⟨_, rfl⟩
 have hlen : fs.length ≤ 4 := by
  rw [← hfs]; simp; omega
 have hm2 : Mem NoB w w2 [rowR fltE v2 (⟨84, #[.pointer p], #[], 1⟩ :: fs)] := by
  rw [← hfs]; have h9 : Mem NoB w w2 (rowR fltE v2 (⟨84, #[.pointer p], #[], 1⟩ :: ([⟨147, #[], #[.pointer (some ⟨k5, 0, none⟩)], 2⟩, ⟨148, #[], #[.pointer (some ⟨k4, 0, none⟩)], 360⟩] ++ x)) :: _) := HM.out; exact Mem.sub h9 sbI
 replace HM := Hd hm2; obtain ⟨a2, c2, rfl⟩ := HM.out.fact fun A h => row_len h
 rw [List.length_cons] at *; clear hm2 hfs; go_wp2_with fail; go_loopw [24] (fun i wr => i = .int .i64 0 ∧ Hid (Mem NoB w wr [rowR fltE (.slice a2 (fs.length + 1) c2) (⟨84, #[.pointer p], #[], 1⟩ :: fs)])) (fun i _ => 0)
 case atStart => exact ⟨rfl, HM⟩
 case round =>
  clear HM; obtain ⟨rfl, HM⟩ := hrel; have g1 : (0 : Int) < ((fs.length + 1 : Nat) : Int) := by omega
  obtain ⟨A1, hrow⟩ := HM.out.get (r := rowR fltE (.slice a2 (fs.length + 1) c2) (⟨84, #[.pointer p], #[], 1⟩ :: fs)) pk; obtain ⟨g, o, cap, hsl, hcap, -, hat⟩ := row_cells hrow (by rw [List.length_cons]; omega); rw [List.length_cons] at hsl hcap; have hat0 := hat 0 (by rw [List.length_cons]; omega); injection hsl with hs1 hs2 hs3
  subst hs1 hs3; have c0 := hat0 0 (by decide); have c1 := hat0 1 (by decide); have c0' : wr.cell? ⟨g, o, none⟩ = some (.func (.func 84) #[.pointer p] #[]) := by rw [Nat.zero_mul, Nat.add_zero] at c0; exact c0
  have c1' : wr.cell? ⟨g, o + 1, none⟩ = some (.int .i64 1) := by rw [Nat.zero_mul, Nat.add_zero] at c1; exact c1
  have hgl := World.block_lt_of_cell? _ _ c0'; clear hrow hat hat0 c0 c1 hcap; have hen : ∀ args w, (callFunc 84 args).run Tryz.prog w = .ok (.enter 84 args) w := enters_of Tryz.func84 (by kernel_rfl) rfl; go_wp2_with fail; obtain ⟨k11, hk11⟩ : ∃ k, wr.heap.size = k := ⟨_, rfl⟩; obtain ⟨w3, hw3⟩ : ∃ w3, wr.alloc (Obj.cells #[.func (.func 84) #[.pointer p] #[], .int .i64 1] 158) = w3 := ⟨_, rfl⟩; have hm3 := HM.out.alloc (t := 158) (cs := [.func (.func 84) #[.pointer p] #[], .int .i64 1]) hk11; rw [show wr.alloc (Obj.cells [.func (.func 84) #[.pointer p] #[], .int .i64 1].toArray 158) = w3 from hw3] at hm3; rw [hw3, hk11]; replace HM := Hd hm3; clear hw3 hk11 hm3 c0' c1' hgl; refine cret (snone_any w3 p (HN.out.ext HM.out.extTo)) ?_; have fM := HM.out.fa; go_wp2_with fail; all_goals clear fM
  go_ret; exact ⟨rfl, HM.out.extTo⟩
theorem nreach_any (w : World) (p : Option Addr) (x : Int) (h : NoS w p) :
 Calls Tryz.prog 32 #[.pointer p, .int .i64 x] w fun e w' => e = .returned (.int .i64 1) ∧ Ext w w' := by
 have HM := Hd (Mem.start0 w); have HN := Hd h; clear h; go_enter Tryz.func32, Tryz.ntmps32
 have fM := HM.out.fa; go_wp2_with fail; all_goals clear fM
 obtain ⟨k2, hk2⟩ : ∃ k, w.heap.size = k := ⟨_, rfl⟩; obtain ⟨k3, hk3⟩ : ∃ k, w.heap.size + 1 = k := ⟨_, rfl⟩; refine nxt HM fun w1 M => ?_
 replace HM := M; clear M; rw [hk3, hk2] at HM ⊢; clear hk2 hk3; have hd := does_none w1 p 95 96 #[] #[.pointer (some ⟨k3, 0, none⟩), .pointer (some ⟨k2, 0, none⟩)] #[] #[.pointer (some ⟨k3, 0, none⟩), .pointer (some ⟨k2, 0, none⟩)] (.slice none 0 0) ([]) (by simp) (HN.out.ext HM.out.extTo) (.inl ⟨rfl, rfl⟩); refine hd.mono ?_; clear hd; rintro r w2 ⟨rfl, hE2⟩; replace HM := Hd (HM.out.ext hE2); clear hE2; go_wp2_with fail; go_ret; exact ⟨rfl, HM.out.extTo⟩
theorem nhear_any (w : World) (p : Option Addr) (x : Int) (h : NoS w p) :
 Calls Tryz.prog 36 #[.pointer p, .int .i64 x] w fun e w' => e = .returned (.int .i64 1) ∧ Ext w w' := by
 have HM := Hd (Mem.start0 w); have HN := Hd h; clear h; go_enter Tryz.func36, Tryz.ntmps36
 have fM := HM.out.fa; go_wp2_with fail; all_goals clear fM
 obtain ⟨k2, hk2⟩ : ∃ k, w.heap.size = k := ⟨_, rfl⟩; obtain ⟨k3, hk3⟩ : ∃ k, w.heap.size + 1 = k := ⟨_, rfl⟩; refine nxt HM fun w1 M => ?_
 replace HM := M; clear M; rw [hk3, hk2] at HM ⊢; clear hk2 hk3; have hd := does_none w1 p 99 100 #[] #[.pointer (some ⟨k3, 0, none⟩), .pointer (some ⟨k2, 0, none⟩)] #[] #[.pointer (some ⟨k3, 0, none⟩), .pointer (some ⟨k2, 0, none⟩)] (.slice none 0 0) ([]) (by simp) (HN.out.ext HM.out.extTo) (.inl ⟨rfl, rfl⟩); refine hd.mono ?_; clear hd; rintro r w2 ⟨rfl, hE2⟩; replace HM := Hd (HM.out.ext hE2); clear hE2; go_wp2_with fail; go_ret; exact ⟨rfl, HM.out.extTo⟩
theorem nclose_any (w : World) (p : Option Addr) (x : Int) (h : NoS w p) :
 Calls Tryz.prog 38 #[.pointer p, .int .i64 x] w fun e w' => e = .returned (.int .i64 1) ∧ Ext w w' := by
 have HM := Hd (Mem.start0 w); have HN := Hd h; clear h; go_enter Tryz.func38, Tryz.ntmps38
 have fM := HM.out.fa; go_wp2_with fail; all_goals clear fM
 obtain ⟨k2, hk2⟩ : ∃ k, w.heap.size = k := ⟨_, rfl⟩; obtain ⟨k3, hk3⟩ : ∃ k, w.heap.size + 1 = k := ⟨_, rfl⟩; refine nxt HM fun w1 M => ?_
 replace HM := M; clear M; rw [hk3, hk2] at HM ⊢; clear hk2 hk3; have hd := does_none w1 p 101 102 #[] #[.pointer (some ⟨k3, 0, none⟩)] #[] #[.pointer (some ⟨k2, 0, none⟩), .pointer (some ⟨k3, 0, none⟩)] (.slice none 0 0) ([]) (by simp) (HN.out.ext HM.out.extTo) (.inl ⟨rfl, rfl⟩); refine hd.mono ?_; clear hd; rintro r w2 ⟨rfl, hE2⟩; replace HM := Hd (HM.out.ext hE2); clear hE2; go_wp2_with fail; go_ret; exact ⟨rfl, HM.out.extTo⟩
theorem nack_any (w : World) (p : Option Addr) (i now : Int) (h : NoS w p) :
 Calls Tryz.prog 34 #[.pointer p, .int .i64 i, .int .i64 now] w fun e w' => e = .returned (.int .i64 1) ∧ Ext w w' := by
 have HM := Hd (Mem.start0 w); have HN := Hd h; clear h; go_enter Tryz.func34, Tryz.ntmps34
 have fM := HM.out.fa; go_wp2_with fail; all_goals clear fM
 obtain ⟨k2, hk2⟩ : ∃ k, w.heap.size = k := ⟨_, rfl⟩; obtain ⟨k3, hk3⟩ : ∃ k, w.heap.size + 1 = k := ⟨_, rfl⟩; obtain ⟨k4, hk4⟩ : ∃ k, w.heap.size + 1 + 1 = k := ⟨_, rfl⟩; refine nxt HM fun w1 M => ?_
 replace HM := M; clear M; rw [hk4] at HM ⊢; rw [hk3] at HM ⊢; rw [hk2] at HM ⊢; clear hk2 hk3 hk4; have hd := does_none w1 p 97 98 #[] #[.pointer (some ⟨k3, 0, none⟩), .pointer (some ⟨k2, 0, none⟩), .pointer (some ⟨k4, 0, none⟩)] #[] #[.pointer (some ⟨k3, 0, none⟩), .pointer (some ⟨k4, 0, none⟩), .pointer (some ⟨k2, 0, none⟩)] (.slice none 0 0) ([]) (by simp) (HN.out.ext HM.out.extTo) (.inl ⟨rfl, rfl⟩); refine hd.mono ?_; clear hd; rintro r w2 ⟨rfl, hE2⟩; replace HM := Hd (HM.out.ext hE2); clear hE2; go_wp2_with fail; go_ret; exact ⟨rfl, HM.out.extTo⟩
theorem ntake_any (w : World) (p : Option Addr) (h : NoS w p) :
 Calls Tryz.prog 43 #[.pointer p] w fun e w' => e = .returned (.tuple #[.slice none 0 0, .bool false]) ∧ Ext w w' := by
 have HM := Hd (Mem.start0 w); have HN := Hd h; clear h; go_enter Tryz.func43, Tryz.ntmps43
 have fM := HM.out.fa; go_wp2_with fail; all_goals clear fM
 refine cret (snone_any _ _ (HN.out.ext HM.out.extTo)) ?_; have fM := HM.out.fa; go_wp2_with fail; all_goals clear fM
 go_ret2
 exact ⟨rfl, HM.out.extTo⟩
theorem noffer_any (w : World) (p : Option Addr) (i : Int) (e : En) (t : List UInt8) (h : NoS w p) :
 Calls Tryz.prog 30 #[.pointer p, .int .i64 i, .agg e.cells.toArray, .string (bs t)] w fun r w' => r = .returned (.int .i64 1) ∧ Ext w w' := by
 unfold En.cells; have HM := Hd (Mem.start0 w); have HN := Hd h; clear h; go_enter Tryz.func30, Tryz.ntmps30
 have fM := HM.out.fa; go_wp2_with fail; all_goals clear fM
 obtain ⟨k4, hk4⟩ : ∃ k, w.heap.size = k := ⟨_, rfl⟩; obtain ⟨k5, hk5⟩ : ∃ k, k4 + 1 = k := ⟨_, rfl⟩; obtain ⟨k6, hk6⟩ : ∃ k, k5 + 1 = k := ⟨_, rfl⟩; obtain ⟨k9, hk9⟩ : ∃ k, k6 + 1 = k := ⟨_, rfl⟩; obtain ⟨k10, hk10⟩ : ∃ k, k9 + 1 = k := ⟨_, rfl⟩; obtain ⟨kf, hkf⟩ : ∃ k, k10 + 1 = k := ⟨_, rfl⟩; refine nxt HM fun w1 M => ?_
 replace HM := M; clear M; rw [hk4, hk5, hk6, hk9, hk10, hkf] at HM; rw [hk4, hk5, hk6, hk9, hk10, hkf]; clear hk4 hk5 hk6 hk9 hk10 hkf; obtain ⟨_, hbf⟩ := HM.out.get (r := cellsR kf 158 [.func (.func 94) #[] #[.pointer (some ⟨k5, 0, none⟩), .pointer (some ⟨k4, 0, none⟩)], .int .i64 320]) pk; have hd := does_none w1 p 89 91 #[] #[.pointer (some ⟨k9, 0, none⟩)] #[] #[.pointer (some ⟨k9, 0, none⟩), .pointer (some ⟨k4, 0, none⟩), .pointer (some ⟨k10, 0, none⟩)] (.slice (some ⟨kf, 0, none⟩) 1 1) ([⟨94, #[], #[.pointer (some ⟨k5, 0, none⟩), .pointer (some ⟨k4, 0, none⟩)], 320⟩]) (by simp) (HN.out.ext HM.out.extTo) (.inr ⟨kf, _, rfl, rfl, hbf.2⟩); refine hd.mono ?_; clear hd; rintro r w2 ⟨rfl, hE2⟩; replace HM := Hd (HM.out.ext hE2); clear hE2; clear hbf; have fM := HM.out.fa; go_wp2_with fail; all_goals clear fM
 refine nxt HM fun w3 M => ?_
 replace HM := M; clear M; go_ret; exact ⟨rfl, HM.out.extTo⟩
theorem nbeside_any (w : World) (p : Option Addr) (x : Sd) (hxk : I64 x.kind) (h : NoS w p) :
 Calls Tryz.prog 42 #[.pointer p, x.v] w fun r w' => r = .returned (.tuple #[.int .i64 0, .int .i64 1]) ∧ Ext w w' := by
 have HKI := Hd hxk; have HV := Hd (show x.v = .agg x.cells.toArray from rfl); rw [HV.out]; clear hxk; unfold Sd.cells; have HM := Hd (Mem.start0 w); have HN := Hd h; clear h; go_enter Tryz.func42, Tryz.ntmps42
 have fM := HM.out.fa; go_wp2_with ((with_reducible refine at_mk 163 rfl ?_); refine standing ?_); all_goals clear fM
 obtain ⟨k2, hk2⟩ : ∃ k, w.heap.size = k := ⟨_, rfl⟩; obtain ⟨k3, hk3⟩ : ∃ k, k2 + 1 = k := ⟨_, rfl⟩; obtain ⟨k4, hk4⟩ : ∃ k, k3 + 1 = k := ⟨_, rfl⟩; refine nxt HM fun w1 M => ?_
 replace HM := M; clear M; rw [hk2, hk3, hk4] at HM; rw [hk2, hk3, hk4]; clear hk2 hk3 hk4; have hmm := run_makeMap (P := Tryz.prog) 163 w1; have put := fun (w : World) (D : List (Int × Value)) (m : Nat) (h : MapI w m D) (n : Int) (hn : I64 n) (hne : ∀ p ∈ D, p.1 ≠ n) (v : Value) => h.put Tryz.underlying163 Tryz.underlying32 hn hne v
 obtain ⟨w2, r1, m1, k1⟩ := put _ _ _ (mapi_new w1) 10 (i64_lit 10 rfl) (by simp) (.int .i64 0); obtain ⟨w3, r2, m2, k2'⟩ := put _ _ _ m1 11 (i64_lit 11 rfl) (by simp) (.int .i64 16); have hE3 : Ext w1 w3 := ((Keeps.refl NoB w1).alloc _).then (k1.trans k2') fun i hi h => absurd (show i = w1.heap.size from h) (by omega)
 have hlk : (Instr.lookup 163 (.map (some w1.heap.size)) (.int .i64 x.kind) true).run Tryz.prog w3 = .ok (.tuple #[(lookI besD x.kind (.int .i64 0)).1, .bool (lookI besD x.kind (.int .i64 0)).2]) w3 :=
  MapI.look (D := besD) m2 Tryz.underlying163 Tryz.underlying32 zeroI HKI.out (by unfold besD; simp) true
 rw [look_bes] at hlk; dsimp only at hlk; obtain ⟨kz, hkz⟩ : ∃ kz : Int, kz = if x.kind = 11 then 16 else 0 := ⟨_, rfl⟩
 obtain ⟨bk, hbk⟩ : ∃ bk, besK x.kind = bk := ⟨_, rfl⟩; rw [← hkz, hbk] at hlk; replace HM := Hd (HM.out.ext hE3); clear m1 m2 k1 k2' put hE3 hkz hbk; refine ⟨?_⟩; have fM := HM.out.fa; go_wp2_with fail; all_goals clear fM
 obtain ⟨k6, hk6⟩ : ∃ k, w3.heap.size = k := ⟨_, rfl⟩; obtain ⟨k7, hk7⟩ : ∃ k, k6 + 1 = k := ⟨_, rfl⟩; obtain ⟨w4, hw4⟩ : ∃ x, x = w3 := ⟨_, rfl⟩; refine nxt HM fun w1 M => ?_
 replace HM := M; clear M; rw [hk6, hk7] at HM; rw [hk6, hk7]; clear hk6 hk7 r1 r2 hlk hmm; have hd := does_none w1 p 105 106 #[] #[.pointer (some ⟨k7, 0, none⟩), .pointer (some ⟨k3, 0, none⟩)] #[] #[.pointer (some ⟨k3, 0, none⟩), .pointer (some ⟨k2, 0, none⟩), .pointer (some ⟨k6, 0, none⟩), .pointer (some ⟨k4, 0, none⟩)] (.slice none 0 0) ([]) (by simp) (HN.out.ext HM.out.extTo) (.inl ⟨rfl, rfl⟩); refine hd.mono ?_; clear hd; rintro r w2 ⟨rfl, hE2⟩; replace HM := Hd (HM.out.ext hE2); clear hE2; have fM := HM.out.fa; go_wp2_with fail; all_goals clear fM
 refine nxt HM fun w6 M => ?_
 replace HM := M; clear M; obtain ⟨_, hb4⟩ := HM.out.get (r := cellsR k4 3 [.int .i64 0]) pk; refine bodyPost_ret (results_ct rfl _ rfl (lv_int w6 k4 _ (hb4.2.reads.1 0))) rfl ?_; exact ⟨rfl, HM.out.extTo⟩
theorem nsame_left {A : Nat → Prop} (w : World) (p : Option Addr) (sb : Nat) (s : Ss) (h : NoS w p) (hs : (sesR sb s).p A w) :
 Calls Tryz.prog 46 #[.pointer (p), .pointer (some ⟨sb, 0, none⟩)] w fun e w' => e = .returned (.bool false) ∧ Ext w w' := by
 have HM := Hd (Mem.start0 w); have hp := snone_any w p h; have hq : Calls Tryz.prog 84 #[.pointer (some ⟨sb, 0, none⟩)] w fun e w' => e = .returned (.bool false) ∧ w' = w := let ⟨rb, bv, A1, A2, h1, _⟩ := ses_parts hs; snone_ses h1
 have HP := Hd hp; have HQ := Hd hq; clear hs h hp hq; go_enter Tryz.func46, Tryz.ntmps46
 go_wp2_with fail; refine cret (HP.out) ?_; go_wp2_with fail; refine cret (HP.out) ?_; go_wp2_with fail; refine cret (HQ.out) ?_; go_wp2_with fail; go_ret; exact ⟨rfl, HM.out.extTo⟩
theorem nsame_right {A : Nat → Prop} (w : World) (p : Option Addr) (sb : Nat) (s : Ss) (h : NoS w p) (hs : (sesR sb s).p A w) :
 Calls Tryz.prog 46 #[.pointer (some ⟨sb, 0, none⟩), .pointer (p)] w fun e w' => e = .returned (.bool false) ∧ Ext w w' := by
 have HM := Hd (Mem.start0 w); have hp := snone_any w p h; have hq : Calls Tryz.prog 84 #[.pointer (some ⟨sb, 0, none⟩)] w fun e w' => e = .returned (.bool false) ∧ w' = w := let ⟨rb, bv, A1, A2, h1, _⟩ := ses_parts hs; snone_ses h1
 have HP := Hd hp; have HQ := Hd hq; clear hs h hp hq; go_enter Tryz.func46, Tryz.ntmps46
 go_wp2_with fail; refine cret (HQ.out) ?_; go_wp2_with fail; refine cret (HP.out) ?_; go_wp2_with fail; refine cret (HQ.out) ?_; go_wp2_with fail; go_ret; exact ⟨rfl, HM.out.extTo⟩
theorem infoSt : (Tryz.prog.info? 68).map (·.size) = some 9 := by kernel_rfl
abbrev zST : List Value := [.int .i64 0, .int .i64 0, .int .i64 0, .int .i64 0, .int .i64 0, .int .i64 0, .bool false, .bool false, .int .i64 0]
theorem zeroST (w : World) : (zeroValue 68).run Tryz.prog w = .ok (.agg zST.toArray) w := by kernel_rfl
theorem nstate_any (w : World) (p : Option Addr) (h : NoS w p) :
 Calls Tryz.prog 39 #[.pointer p] w fun e w' => e = .returned (.agg zST.toArray) ∧ Ext w w' := by
 have HM := Hd (Mem.start0 w); have HN := Hd h; clear h; go_enter Tryz.func39, Tryz.ntmps39
 have fM := HM.out.fa; go_wp2_with (((with_reducible refine at_alloc 68 rfl ?_); refine alW 68 rfl rfl (zeroST _) HM.out ?_; intro w9 n9 M); replace HM := Hd M; clear M fM; have fM := HM.out.fa); all_goals clear fM
 refine nxt HM fun w1 M => ?_
 replace HM := M; clear M; refine cret (snone_any _ _ (HN.out.ext HM.out.extTo)) ?_; have fM := HM.out.fa; go_wp2_with (((with_reducible refine at_store 68 _ _ rfl ?_); refine stW 68 _ _ rfl rfl rfl rfl HM.out infoSt ?_; intro w9 M); replace HM := Hd M; clear M fM; have fM := HM.out.fa); all_goals clear fM
 refine nxt HM fun w3 M => ?_
 replace HM := M; clear M; refine bodyPost_ret (results_c rfl _ rfl (lvW 68 HM.out Tryz.underlying68 rfl infoSt)) rfl ?_; exact ⟨rfl, HM.out.extTo⟩
def joinE : En := ⟨2, 1, 0, []⟩
def lnS (i : Int) : Sd := lineS i joinE []
def liS (i : Int) : It := ⟨false, 0, rawS (lnS i)⟩
theorem sd_a : sdB (lnS 5) = true := by decide +kernel
theorem sd_b : sdB (lnS 6) = true := by decide +kernel
theorem sd_c : sdB (lnS 7) = true := by decide +kernel
theorem sd_d : sdB (lnS 9) = true := by decide +kernel
def wkS (next sent acked heard : Int) (closed : Bool) (l : List It) (bye : Option (List UInt8)) : Ss := ⟨3, 1, next, sent, acked, heard, false, closed, 10, ⟨2, 0, l⟩, bye⟩
theorem put_wk (l : List It) (i : Int) (h : sdB (lnS i) = true) : AR.put ⟨2, 0, l⟩ (liS i) = if l.length < 2 then (⟨2, 0, l ++ [liS i]⟩, 0, 0) else match l.findIdx? p34 with
 | some j => (⟨2, 1, l.eraseIdx j ++ [liS i]⟩, 1, 0)
 | none => (⟨2, 0, l⟩, 0, 350) := by
 have h1 : ¬ 1024 < (liS i).bytes.length := by
  have := raw_len (lnS i) h; show ¬ 1024 < (rawS (lnS i)).length
  omega
 have h2 : l.findIdx? (p33 (liS i)) = none := by
  rw [List.findIdx?_eq_none_iff]; intro x hx; simp [p33, liS]
 unfold AR.put; rw [if_neg (by simp [liS]), if_neg h1]; dsimp only; rw [h2]; dsimp only; rfl
theorem wk_offer (next sent acked heard : Int) (l : List It) (i : Int) (h : sdB (lnS i) = true) (hl : l.length < 2) (hn : i = next) :
 (wkS next sent acked heard false l none).offer i joinE [] = (wkS (next + 1) sent acked heard false (l ++ [liS i]) none, 0) := by
 have hp := put_wk l i h; rw [if_pos hl] at hp; have hp2 : AR.put (wkS next sent acked heard false l none).ring ⟨false, 0, rawS (lineS i joinE [])⟩ = (⟨2, 0, l ++ [liS i]⟩, 0, 0) := hp; unfold Ss.offer; rw [if_neg (by rw [show sdB (lineS i joinE []) = true from h]; simp), if_neg (by simp [wkS]), if_neg (by simp [wkS, hn]), hp2, if_neg (by simp)]; rfl
theorem wk_over (next sent acked heard : Int) (l : List It) (i : Int) (h : sdB (lnS i) = true) (hl : ¬ l.length < 2) (hs : ∀ x ∈ l, x.side = false) (hn : i = next) :
 (wkS next sent acked heard false l none).offer i joinE [] = (wkS next sent acked heard false l none, 350) := by
 have hp := put_wk l i h
 have h2 : l.findIdx? p34 = none := by
  rw [List.findIdx?_eq_none_iff]; intro x hx; simp [p34, hs x hx]
 rw [if_neg hl, h2] at hp; have hp2 : AR.put (wkS next sent acked heard false l none).ring ⟨false, 0, rawS (lineS i joinE [])⟩ = (⟨2, 0, l⟩, 0, 350) := hp; unfold Ss.offer; rw [if_neg (by rw [show sdB (lineS i joinE []) = true from h]; simp), if_neg (by simp [wkS]), if_neg (by simp [wkS, hn]), hp2, if_pos (by simp)]; rfl
theorem wk_turn (next sent acked heard : Int) (l : List It) (i : Int) (h : sdB (lnS i) = true) (hn : i ≠ next) :
 (wkS next sent acked heard false l none).offer i joinE [] = (wkS next sent acked heard false l none, 320) := by
 unfold Ss.offer; rw [if_neg (by rw [show sdB (lineS i joinE []) = true from h]; simp), if_neg (by simp [wkS]), if_pos (by simpa [wkS] using hn)]
theorem wk_take (next sent acked heard : Int) (l : List It) (i : Int) (h : ¬ sent - acked ≥ 2) :
 (wkS next sent acked heard false (liS i :: l) none).take = (wkS next (sent + 1) acked heard false l none, some (rawS (lnS i))) := by
 have hw : (wkS next sent acked heard false (liS i :: l) none).waits = false := by
  show (!false && decide (sent - acked ≥ ((2 : Nat) : Int))) = false
  simpa using h
 unfold Ss.take; rw [if_neg (by simp [wkS]), if_neg (by rw [hw]; simp)]; rfl
theorem wk_waits (next sent acked heard : Int) (l : List It) (i : Int) (h : sent - acked ≥ 2) :
 (wkS next sent acked heard false (liS i :: l) none).take = (wkS next sent acked heard false (liS i :: l) none, none) := by
 have hw : (wkS next sent acked heard false (liS i :: l) none).waits = true := by
  show (!false && decide (sent - acked ≥ ((2 : Nat) : Int))) = true
  simpa using h
 unfold Ss.take; rw [if_neg (by simp [wkS]), if_pos hw]
theorem taken_line (s : Ss) (x : Sd) (h : sdB x = true) (hk : x.kind = 9) (ht : s.take.2 = some (rawS x)) : takenL s = x.index := by
 have h1 := readL_app x h []; rw [List.append_nil] at h1; unfold takenL; rw [ht]; simp only [Option.isSome_some, Option.getD_some]; rw [show readL (rawS x) = _ from h1]; simp [hk]
theorem taken_other (s : Ss) (x : Sd) (h : sdB x = true) (hk : x.kind ≠ 9) (ht : s.take.2 = some (rawS x)) : takenL s = -2 := by
 have h1 := readL_app x h []; rw [List.append_nil] at h1; unfold takenL; rw [ht]; simp only [Option.isSome_some, Option.getD_some]; rw [show readL (rawS x) = _ from h1]; simp [hk]
theorem taken_none (s : Ss) (ht : s.take.2 = none) : takenL s = -1 := by
 unfold takenL; rw [ht]; simp
def wkA : Ss := wkS 5 5 5 0 false [] none
def wkB : Ss := wkS 6 5 5 0 false [liS 5] none
def wkC : Ss := wkS 7 5 5 0 false [liS 5, liS 6] none
def wkD : Ss := wkS 7 6 5 0 false [liS 6] none
def wkE : Ss := wkS 7 7 5 0 false [] none
def wkF : Ss := wkS 8 7 5 0 false [liS 7] none
def wkG : Ss := wkS 8 7 6 1 false [liS 7] none
def wkH : Ss := wkS 8 8 6 1 false [] none
def wkI : Ss := wkS 8 8 6 1 true [] (some (rawS (byeS 0)))
def wkJ : Ss := wkS 8 8 6 1 true [] none
theorem wk_new : newS 3 1 5 (2 : Int).toNat 10 0 = wkA := rfl
theorem wk_newOk : newOk 3 1 5 2 10 0 = true := by decide
theorem wk1 : wkA.offer 5 joinE [] = (wkB, 0) := wk_offer 5 5 5 0 [] 5 sd_a (by simp) rfl
theorem wk2 : wkB.offer 6 joinE [] = (wkC, 0) := wk_offer 6 5 5 0 [liS 5] 6 sd_b (by simp) rfl
theorem wk3 : wkC.offer 7 joinE [] = (wkC, 350) := wk_over 7 5 5 0 [liS 5, liS 6] 7 sd_c (by simp) (by intro x hx; simp at hx; rcases hx with rfl | rfl <;> rfl) rfl
theorem wk4 : wkC.offer 9 joinE [] = (wkC, 320) := wk_turn 7 5 5 0 [liS 5, liS 6] 9 sd_d (by decide)
theorem wk5 : wkC.take = (wkD, some (rawS (lnS 5))) := wk_take 7 5 5 0 [liS 6] 5 (by decide)
theorem wk6 : wkD.take = (wkE, some (rawS (lnS 6))) := wk_take 7 6 5 0 [] 6 (by decide)
theorem wk7 : wkE.offer 7 joinE [] = (wkF, 0) := wk_offer 7 7 5 0 [] 7 sd_c (by simp) rfl
theorem wk8 : wkF.take = (wkF, none) := wk_waits 8 7 5 0 [] 7 (by decide)
theorem wk9 : wkF.ack 6 1 = (wkG, 0) := rfl
theorem wk10 : wkG.take = (wkH, some (rawS (lnS 7))) := wk_take 8 7 6 1 [] 7 (by decide)
theorem wk11 : wkH.silent 10 = false := rfl
theorem wk12 : wkH.silent 11 = true := rfl
theorem wk13 : wkH.close 0 = (wkI, 0) := rfl
theorem wk14 : wkI.take = (wkJ, some (rawS (byeS 0))) := rfl
theorem wk15 : wkJ.take = (wkJ, none) := rfl
theorem wk16 : wkJ.hear 12 = (wkJ, 360) := rfl
theorem wt5 : takenL wkC = 5 := taken_line wkC (lnS 5) sd_a rfl (by rw [wk5])
theorem wt6 : takenL wkD = 6 := taken_line wkD (lnS 6) sd_b rfl (by rw [wk6])
theorem wt8 : takenL wkF = -1 := taken_none wkF (by rw [wk8])
theorem wt10 : takenL wkG = 7 := taken_line wkG (lnS 7) sd_c rfl (by rw [wk10])
theorem wt14 : takenL wkI = -2 := taken_other wkI (byeS 0) (sd_bye 0 (by decide)) (by decide) (by rw [wk14])
theorem wt15 : takenL wkJ = -1 := taken_none wkJ (by rw [wk15])
theorem okA : OkSs wkA 0 := wk_new ▸ (new_ok wk_newOk).1
theorem okB : OkSs wkB 1 := by have h := okA.offer 5 joinE []; rw [wk1] at h; exact h
theorem okC : OkSs wkC 2 := by have h := okB.offer 6 joinE []; rw [wk2] at h; exact h
theorem okD : OkSs wkD 2 := by have h := okC.take; rw [wk5] at h; exact h
theorem okE : OkSs wkE 2 := by have h := okD.take; rw [wk6] at h; exact h
theorem okF : OkSs wkF 3 := by have h := okE.offer 7 joinE []; rw [wk7] at h; exact h
theorem okG : OkSs wkG 3 := by have h := okF.ack 6 1; rw [wk9] at h; exact h
theorem okH : OkSs wkH 3 := by have h := okG.take; rw [wk10] at h; exact h
theorem okI : OkSs wkI 3 := by have h := okH.close 0; rw [wk13] at h; exact h
theorem okJ : OkSs wkJ 3 := by have h := okI.take; rw [wk14] at h; exact h
end Go.Proofs.YtoadjbgpfihoiaaGreatDoor
