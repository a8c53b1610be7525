/- Texts CK, CN, one behind the other. Conditions: as each says. -/
import Derived.Test.YtoadjbgpfihoiaaGreatDoorFuZF
set_option linter.unusedVariables false
set_option linter.unusedSimpArgs false
set_option maxHeartbeats 8000000
set_option maxRecDepth 100000
namespace Go.Proofs.YtoadjbgpfihoiaaGreatDoor
open Go.RowKit
section
def qCK0 : List (Nat × Nat) := [(0, 0), (0, 1), (0, 2), (3, 3), (0, 4), (0, 5), (3, 6), (0, 7), (0, 8), (0, 9), (0, 10), (3, 11), (0, 12), (0, 13)]
def qCK1 : List (Nat × Nat) := [(0, 0), (0, 1), (3, 2), (0, 3), (0, 4), (0, 5), (0, 6), (3, 7), (0, 8), (0, 9), (0, 10), (3, 11), (0, 12), (0, 13)]
attribute [local go_sem] Oper.semAt_some
theorem slE_hm (W : World) (a : Option Addr) (n c : Nat) (hj : n ≤ c) : (Instr.sliceAt 39 (.slice a n c) none (some (.int .i64 (n : Int))) (some (.int .i64 (n : Int)))).run Tryz.prog W = .ok (.slice a n n) W := by
 have hu : Tryz.prog.underlying 39 = some (.slice (Tryz.prog.elem 39)) := by rw [elem_ens]; exact Tryz.underlying39
 rw [run_sliceAt_slice _ _ _ _ _ _ hu, run_slice_hm _ _ _ _ _ hu _ _ _ _ (by omega) (by omega) (by omega), elem_ens, size_en]; simp [Result.andThen, sliced]; cases a <;> simp [Addr.add]
theorem Mem.linAdd {F : Nat → Prop} {w0 w : World} {L : List Res} {lv kv v' : Value} {l k l' : List En} (h : Mem F w0 w (linR lv kv l k :: L)) {w' : World} (e : Ext w w') (hr : RowAt tenE w' w.heap.size v' l') : Mem F w0 w' (linR v' kv l' k :: L) := by
 refine Mem.close (L1 := [rowR tenE v' l', linR lv kv l k]) (h.newRow e hr) fun A hA => ?_
 obtain ⟨B, C, h1, ⟨D, E, h2, h3, h4, h5⟩, h6, h7⟩ := hA; exact ⟨⟨B, h1, fun i hi => (h7 i).2 (.inl hi)⟩, let ⟨K, k1, k2⟩ := h2.2.1; ⟨K, k1, fun i hi => (h7 i).2 (.inr ((h5 i).2 (.inl (k2 i hi))))⟩, fun i hi => SepL.lt (L := [rowR tenE v' l', linR lv kv l k]) ⟨B, C, h1, ⟨D, E, h2, h3, h4, h5⟩, h6, h7⟩ i hi⟩
theorem row_cap {α : Type} {E : Enc α} {A : Nat → Prop} {w : World} {a : Option Addr} {n c : Nat} {l : List α} (h : (rowR E (.slice a n c) l).p A w) : l.length ≤ c := by
 obtain ⟨-, -, ⟨h1, h2⟩ | ⟨g, o, cap, h1, h2, h3, -⟩⟩ := h
 · omega
 · cases h1; exact h3
theorem full_ten {A : Nat → Prop} {w : World} {a : Option Addr} {c0 c b : Nat} {l : List En} (ty : TypeId) (h : (rowR tenE (.slice a l.length c0) l).p A w) (x : En) (hb : ∀ o, w.cell? ⟨b, o, none⟩ = (tenE.cells x)[o]?) (hl : l.length < 1000000) :
 ∃ v' w', (Builtin.append_ #[39, 39] ty #[.slice a l.length l.length, .slice (some ⟨b, 0, none⟩) 1 c]).run Tryz.prog w = .ok v' w' ∧ RowAt tenE w' w.heap.size v' (l ++ [x]) ∧ Ext w w' := by
 obtain ⟨i0, hi, hz0, hz1, hz2⟩ := info_parts infoTen; exact rowAt_full 39 39 ty 35 i0 _ 40 Tryz.underlying39 Tryz.underlying39 hi hz0 hz1 hz2 rfl h x hb (by simp [maxLen]; omega) (by omega)
theorem cline_any {A : Nat → Prop} (w : World) (cb : Nat) (c : Cl) (x : Sd) (h : (clR cb c).p A w) (hi : 0 ≤ x.index ∧ x.index ≤ 2147483647) (hl : c.m.lines.length < 1000000) (hwl : c.waits.length ≤ 1000) :
 Calls Tryz.prog 118 #[.pointer (some ⟨cb, 0, none⟩), x.v] w (HearPost A w cb (c.line x)) := by
 cases e1 : c.gr
 · have HS := Hd (show c.line x = (c, false, 381) by unfold Cl.line; rw [if_pos (.inl e1)])
   clear hi hl hwl; obtain ⟨lv, kv, wv, bv, hm⟩ := (Mem.start h).clOpen; have HM := Hd hm; clear hm h; unfold Sd.v Sd.cells; go_enter Tryz.func118, Tryz.ntmps118
   have fM := HM.out.fa; go_wp2_with (((with_reducible refine at_box 37 _ rfl ?_); refine boW 37 _ rfl rfl rfl HM.out ?_; intro w9 n9 M); replace HM := Hd M; clear M fM; have fM := HM.out.fa); all_goals clear fM
   rename Nat => kx
   refine nxt HM fun w1 M => ?_
   replace HM := M; clear M; have fM := HM.out.fa; have hE0 : Keeps NoB w1 w1.drew := (Keeps.refl _ _).drew; refine rgE qCK0 [] [14] [14] ?_ (hp := (plan3 [0, 1, 3, 7, 15, 31, 63, 31, 159, 415, 927, 1951, 4095, 8191, 16383] (by kernel_rfl) rfl (by kernel_rfl))); simp only [qCK0, planL, nL]; iterate 8 (first | (refine plan_skip rfl ?_; simp only [nP]) | (refine pM _ rfl rfl ?_; simp only [nP, nE]) | (refine pR (by rfl) (fun W => by go_simp <;> with_reducible rfl) ?_; simp only [nP]) | (refine pX (by rfl) (by go_simp <;> with_reducible rfl) ?_; simp only [nP]))
   iterate 3 ((refine plan_skip rfl ?_; simp only [nP]))
   iterate 3 (first | (refine plan_skip rfl ?_; simp only [nP]) | (refine pR (by rfl) (fun W => by go_simp <;> with_reducible rfl) ?_; simp only [nP]))
   refine plan_nil ?_; simp only [tailL, List.filterMap_cons, List.filterMap_nil, nL]; change wpList _ _ _ (_ :: []) _ _; go_wp2_with fail; refine (cmust_no _ 381).mono ?_; rintro e w9 ⟨rfl, rfl⟩; clear fM; refine nxt HM fun w2 M => ?_
   replace HM := M; clear M; refine ⟨rfl, ?_⟩; rw [HearPost, HS.out]; exact ⟨rfl, (Mem.clClose (c := c) (L := []) (Mem.sub HM.out (by repeat first | exact Sub.nil | refine Sub.cons (by with_reducible repeat first | exact ph | apply pt) ?_))).upd⟩
 by_cases e2 : x.index = c.m.next
 case neg =>
  have HS := Hd (show c.line x = (c, false, 381) by unfold Cl.line; rw [if_pos (.inr e2)]); have d2 : (x.index == c.m.next) = false := by simpa using e2
  clear hi hl hwl e2; obtain ⟨lv, kv, wv, bv, hm⟩ := (Mem.start h).clOpen; have HM := Hd hm; clear hm h; unfold Sd.v Sd.cells; go_enter Tryz.func118, Tryz.ntmps118
  have fM := HM.out.fa; go_wp2_with (((with_reducible refine at_box 37 _ rfl ?_); refine boW 37 _ rfl rfl rfl HM.out ?_; intro w9 n9 M); replace HM := Hd M; clear M fM; have fM := HM.out.fa); all_goals clear fM
  rename Nat => kx
  refine nxt HM fun w1 M => ?_
  replace HM := M; clear M; have fM := HM.out.fa; have hE0 : Keeps NoB w1 w1.drew := (Keeps.refl _ _).drew; refine rgE qCK0 [] [14] [14] ?_ (hp := (plan3 [0, 1, 3, 7, 15, 31, 63, 31, 159, 415, 927, 1951, 4095, 8191, 16383] (by kernel_rfl) rfl (by kernel_rfl))); simp only [qCK0, planL, nL]; iterate 8 (first | (refine pM _ rfl rfl ?_; simp only [nP, nE]) | (refine pR (by rfl) (fun W => by go_simp <;> with_reducible rfl) ?_; simp only [nP]) | (refine pX (by rfl) (by go_simp <;> with_reducible rfl) ?_; simp only [nP]))
  iterate 3 ((refine pR rfl (fun W => by go_simp <;> with_reducible rfl) ?_; simp only [nP]))
  iterate 3 (first | (refine pR (by rfl) (fun W => by go_simp <;> with_reducible rfl) ?_; simp only [nP]) | (refine pX (by rfl) (by go_simp <;> with_reducible rfl) ?_; simp only [nP]))
  refine plan_nil ?_; simp only [tailL, List.filterMap_cons, List.filterMap_nil, nL]; change wpList _ _ _ (_ :: []) _ _; go_wp2_with fail; refine (cmust_no _ 381).mono ?_; rintro e w9 ⟨rfl, rfl⟩; clear fM; refine nxt HM fun w2 M => ?_
  replace HM := M; clear M; refine ⟨rfl, ?_⟩; rw [HearPost, HS.out]; exact ⟨rfl, (Mem.clClose (c := c) (L := []) (Mem.sub HM.out (by repeat first | exact Sub.nil | refine Sub.cons (by with_reducible repeat first | exact ph | apply pt) ?_))).upd⟩
 have HS := Hd (show c.line x = ({ c with m := ⟨x.token, c.m.lines ++ [x.e], c.m.next + 1⟩, waits := c.left x }, true, 0) by unfold Cl.line; rw [if_neg (fun h => h.elim (fun h => by rw [e1] at h; cases h) (fun h => h e2))]); have d2 : (x.index == c.m.next) = true := by simpa using e2
 have hw1 := Hd (show wrap64 (c.m.next + 1) = c.m.next + 1 from IntWalk.wrap64_in _ (by omega)); have hw2 := Hd (show IntKind.i64.wrap (c.m.next + 1) = c.m.next + 1 from IntWalk.i64_in _ (by omega)); have HLN := Hd hl; have HWL := Hd hwl; clear hi hl hwl e2; obtain ⟨lv, kv, wv, bv, hm⟩ := (Mem.start h).clOpen; obtain ⟨al, dl, rfl⟩ : ∃ a d, lv = .slice a c.m.lines.length d := (hm.pick (r := linR lv kv c.m.lines c.k.lines) pk).fact fun A hA => let ⟨_, h1, _⟩ := hA.1; row_len h1
 have hdl : c.m.lines.length ≤ dl := (hm.pick (r := linR (.slice al c.m.lines.length dl) kv c.m.lines c.k.lines) pk).fact fun A hA => let ⟨_, h1, _⟩ := hA.1; row_cap h1
 obtain ⟨n, hn⟩ : ∃ n, c.m.lines.length = n := ⟨_, rfl⟩; rw [hn] at hm hdl; have HM := Hd hm; have HN := Hd hn; clear hm h hn; unfold Sd.v Sd.cells; go_enter Tryz.func118, Tryz.ntmps118
 have fM := HM.out.fa; go_wp2_with (((with_reducible refine at_box 37 _ rfl ?_); refine boW 37 _ rfl rfl rfl HM.out ?_; intro w9 n9 M); replace HM := Hd M; clear M fM; have fM := HM.out.fa); all_goals clear fM
 rename Nat => kx
 refine nxt HM fun w1 M => ?_
 replace HM := M; clear M; have fM := HM.out.fa; have hE0 : Keeps NoB w1 w1.drew := (Keeps.refl _ _).drew; refine rgE qCK0 [] [14] [14] ?_ (hp := (plan3 [0, 1, 3, 7, 15, 31, 63, 31, 159, 415, 927, 1951, 4095, 8191, 16383] (by kernel_rfl) rfl (by kernel_rfl))); simp only [qCK0, planL, nL]; iterate 8 (first | (refine pM _ rfl rfl ?_; simp only [nP, nE]) | (refine pR (by rfl) (fun W => by go_simp <;> with_reducible rfl) ?_; simp only [nP]) | (refine pX (by rfl) (by go_simp <;> with_reducible rfl) ?_; simp only [nP]))
 iterate 3 ((refine pR rfl (fun W => by go_simp <;> with_reducible rfl) ?_; simp only [nP]))
 iterate 3 (first | (refine pR (by rfl) (fun W => by go_simp <;> with_reducible rfl) ?_; simp only [nP]) | (refine pX (by rfl) (by go_simp <;> with_reducible rfl) ?_; simp only [nP]))
 refine plan_nil ?_; simp only [tailL, List.filterMap_cons, List.filterMap_nil, nL]; change wpList _ _ _ (_ :: []) _ _; go_wp2_with fail; refine (cmust_ok _ 381).mono ?_; rintro e w9 ⟨rfl, rfl⟩; clear hE0; clear fM; go_wp2_with fail; refine nxt HM fun w2 M => ?_
 replace HM := M; clear M; clear d2 e1; have hsl := fun W => slE_hm W al n dl hdl
 have fM := HM.out.fa; have hE0 : Keeps NoB w2 w2.drew := (Keeps.refl _ _).drew; refine rgE [(0, 0), (0, 1), (0, 2), (0, 3), (0, 4), (1, 5), (0, 6), (0, 7), (0, 8), (0, 9), (1, 10), (0, 11), (0, 12), (0, 13), (0, 14), (0, 15), (1, 16), (0, 17), (0, 18), (0, 19), (3, 20), (2, 21)] [5, 10, 16] [21, 22, 23, 24, 25, 26] [22, 23, 24, 25, 26] ?_ (hp := (plan3 [0, 0, 2, 6, 14, 30, 0, 64, 192, 448, 960, 1984, 0, 4096, 12288, 28672, 61440, 126976, 262142, 0, 524288, 1572864, 4194302, 8388607, 16777215, 33554431, 67108863] (by kernel_rfl) rfl (by kernel_rfl))); simp only [planL, nL]; iterate 21 (first | (refine pM _ rfl rfl ?_; simp only [nP, nE]) | (refine pR (by rfl) (fun W => by go_simp <;> with_reducible rfl) ?_; simp only [nP]) | (refine pX (by rfl) (by go_simp <;> with_reducible rfl) ?_; simp only [nP]) | (refine pL (by rfl) (fun W => by go_simp <;> with_reducible rfl) ?_; simp only [nP]))
 refine plan_does rfl (fun K hK => ?_); go_wp2_with fail; refine ⟨ClsE.of (by repeat (first | assumption | exact Keeps.refl _ _ | refine Keeps.alloc ?_ _ | refine Keeps.setOne ?_ _ _ | refine Keeps.setCell ?_ _ _ (.inl (by first | rfl | exact .inl rfl | exact .inr rfl | omega)) | refine Keeps.drew ?_)), ?_⟩; try simp only [nP]
 refine plan_nil ?_; simp only [tailL, List.filterMap_cons, List.filterMap_nil, nL]; change wpList _ _ _ (_ :: _ :: _ :: _ :: _ :: []) _ _; go_wp2_with (at_builtin; refine standing ?_); clear fM; clear hsl hE0; obtain ⟨ke, hke⟩ : ∃ k, w2.heap.size = k := ⟨_, rfl⟩; refine nxt HM fun w3 M => ?_
 replace HM := M; clear M; rw [hke] at HM ⊢; clear hke; obtain ⟨_, hb⟩ := HM.out.get (r := cellsR ke 35 _) (by with_reducible repeat first | exact ph | apply pt); obtain ⟨A1, hl1⟩ := HM.out.get (r := linR (.slice al n dl) kv c.m.lines c.k.lines) pk; obtain ⟨B1, hrow, -⟩ := hl1.1; rw [← HN.out] at hrow; obtain ⟨v6, w6, hr, hrow6, hE6⟩ := full_ten 39 (c := 1) hrow x.e hb.2.reads.1 HLN.out; rw [HN.out] at hr; obtain ⟨a6, c6, rfl⟩ := hrow6.len; replace HM := Hd ((HM.out.pick (r := linR (.slice al n dl) kv c.m.lines c.k.lines) pk).linAdd hE6 hrow6); refine ⟨?_⟩; refine wpList_append_ran rfl _ _ hr rfl rfl rfl ?_; clear hr hrow6 hE6 hb hl1 hrow; clear A1 B1; obtain ⟨ls, hls⟩ : ∃ l, c.m.lines ++ [x.e] = l := ⟨_, rfl⟩; have HLS := Hd hls; rw [hls] at HM ⊢; clear hls; have fM := HM.out.fa; go_wp2_with fail; all_goals clear fM
 refine nxt HM fun w7 M => ?_
 replace HM := M; clear M; have hww := hw2.out; have fM := HM.out.fa; have hE0 : Keeps (fun k => k = cb) w7 w7.drew := (Keeps.refl _ _).drew; refine rgK (fun k => k = cb) [(0, 0), (0, 1), (0, 2), (0, 3), (0, 4), (0, 5), (3, 6), (0, 7), (0, 8), (1, 9), (0, 10), (0, 11), (0, 12), (2, 13), (0, 14), (0, 15), (0, 16)] [9] [13, 17] [17] ?_ (hp := (plan3 [0, 0, 0, 4, 12, 28, 60, 124, 0, 256, 253, 1277, 3325, 7421, 16383, 32767, 65535, 131071] (by kernel_rfl) rfl (by kernel_rfl))); simp only [planL, nL]; iterate 13 (first | (refine pM _ rfl rfl ?_; simp only [nP, nE]) | (refine pR (by rfl) (fun W => by go_simp <;> with_reducible rfl) ?_; simp only [nP]) | (refine pX (by rfl) (by go_simp <;> with_reducible rfl) ?_; simp only [nP]) | (refine pK (by rfl) (fun W => by go_simp <;> with_reducible rfl) ?_; simp only [nP]))
 refine plan_does rfl (fun K hK => ?_); go_wp2_with fail; refine ⟨ClsK.of (by repeat (first | assumption | exact Keeps.refl _ _ | refine Keeps.alloc ?_ _ | refine Keeps.setOne ?_ _ _ | refine Keeps.setCell ?_ _ _ (.inl (by first | rfl | exact .inl rfl | exact .inr rfl | omega)) | refine Keeps.drew ?_)), ?_⟩; try simp only [nP]
 iterate 3 (refine pR rfl (fun W => by go_simp <;> with_reducible rfl) ?_; simp only [nP])
 refine plan_nil ?_; simp only [tailL, List.filterMap_cons, List.filterMap_nil, nL]; change wpList _ _ _ (_ :: []) _ _; go_wp2_with fail; clear fM; clear hww; refine nxt HM fun w8 M => ?_
 replace HM := M; clear M; have hm : Mem A w w8 [cellsR cb 112 (clC (.slice a6 ls.length c6) kv wv bv { c with m := ⟨x.token, ls, c.m.next + 1⟩ }), linR (.slice a6 ls.length c6) kv ls c.k.lines, cellsR ke 35 x.e.cells, cellsR kx 37 x.cells, rowR tenE wv c.waits, readR bv c.bytes] := HM.out; replace HM := Hd hm; clear hm; by_cases h4 : x.e.kind = 4
 case neg =>
  have d4 : (x.e.kind == 4) = false := by simpa using h4
  have HLF := Hd (show c.left x = c.waits by unfold Cl.left; rw [if_neg (fun h => h4 h.1)]); clear h4; have fM := HM.out.fa; have hE0 : Keeps NoB w8 w8.drew := (Keeps.refl _ _).drew; refine rgE qCK1 [] [] [] ?_ (hp := (plan3 [0, 1, 3, 7, 15, 31, 63, 127, 31, 287, 799, 1823, 4095, 8191] (by kernel_rfl) rfl (by kernel_rfl))); simp only [qCK1, planL, nL]; iterate 5 (first | (refine pM _ rfl rfl ?_; simp only [nP, nE]) | (refine pR (by rfl) (fun W => by go_simp <;> with_reducible rfl) ?_; simp only [nP]) | (refine pX (by rfl) (by go_simp <;> with_reducible rfl) ?_; simp only [nP]))
  iterate 2 ((refine plan_skip rfl ?_; simp only [nP]))
  iterate 2 (refine plan_skip rfl ?_; simp only [nP])
  iterate 2 ((refine plan_skip rfl ?_; simp only [nP]))
  iterate 3 (first | (refine plan_skip rfl ?_; simp only [nP]) | (refine pR (by rfl) (fun W => by go_simp <;> with_reducible rfl) ?_; simp only [nP]))
  refine plan_nil ?_; simp only [tailL, List.filterMap_nil]; go_wp2_with fail; clear fM; clear hE0; refine nxt HM fun w9 M => ?_
  replace HM := M; clear M; go_ret; rw [HearPost, HS.out, HLF.out, HLS.out]; exact ⟨rfl, (Mem.clClose (c := { c with m := ⟨x.token, ls, c.m.next + 1⟩ }) (L := []) (Mem.sub HM.out (by repeat first | exact Sub.nil | refine Sub.cons (by with_reducible repeat first | exact ph | apply pt) ?_))).upd⟩
 have d4 : (x.e.kind == 4) = true := by simpa using h4
 by_cases h5 : x.e.member = c.member
 case neg =>
  have d5 : (x.e.member == c.member) = false := by simpa using h5
  have HLF := Hd (show c.left x = c.waits by unfold Cl.left; rw [if_neg (fun h => h5 h.2)]); clear h4 h5; have fM := HM.out.fa; have hE0 : Keeps NoB w8 w8.drew := (Keeps.refl _ _).drew; refine rgE qCK1 [] [] [] ?_ (hp := (plan3 [0, 1, 3, 7, 15, 31, 63, 127, 31, 287, 799, 1823, 4095, 8191] (by kernel_rfl) rfl (by kernel_rfl))); simp only [qCK1, planL, nL]; iterate 5 (first | (refine pM _ rfl rfl ?_; simp only [nP, nE]) | (refine pR (by rfl) (fun W => by go_simp <;> with_reducible rfl) ?_; simp only [nP]) | (refine pX (by rfl) (by go_simp <;> with_reducible rfl) ?_; simp only [nP]))
  iterate 2 ((refine pR rfl (fun W => by go_simp <;> with_reducible rfl) ?_; simp only [nP]))
  refine pX rfl (by go_simp <;> with_reducible rfl) ?_; simp only [nP]; refine pM _ rfl rfl ?_; simp only [nP, nE]; iterate 2 ((refine pR rfl (fun W => by go_simp <;> with_reducible rfl) ?_; simp only [nP]))
  iterate 3 (first | (refine pR (by rfl) (fun W => by go_simp <;> with_reducible rfl) ?_; simp only [nP]) | (refine pX (by rfl) (by go_simp <;> with_reducible rfl) ?_; simp only [nP]))
  refine plan_nil ?_; simp only [tailL, List.filterMap_nil]; go_wp2_with fail; clear fM; clear hE0; refine nxt HM fun w9 M => ?_
  replace HM := M; clear M; go_ret; rw [HearPost, HS.out, HLF.out, HLS.out]; exact ⟨rfl, (Mem.clClose (c := { c with m := ⟨x.token, ls, c.m.next + 1⟩ }) (L := []) (Mem.sub HM.out (by repeat first | exact Sub.nil | refine Sub.cons (by with_reducible repeat first | exact ph | apply pt) ?_))).upd⟩
 have d5 : (x.e.member == c.member) = true := by simpa using h5
 have HLF := Hd (show c.left x = c.waits.filter (fun y => !toldB x y) by unfold Cl.left; rw [if_pos ⟨h4, h5⟩]); clear h4 h5; have fM := HM.out.fa; have hE0 : Keeps NoB w8 w8.drew := (Keeps.refl _ _).drew; refine rgE qCK1 [] [] [] ?_ (hp := (plan3 [0, 1, 3, 7, 15, 31, 63, 127, 31, 287, 799, 1823, 4095, 8191] (by kernel_rfl) rfl (by kernel_rfl))); simp only [qCK1, planL, nL]; iterate 5 (first | (refine pM _ rfl rfl ?_; simp only [nP, nE]) | (refine pR (by rfl) (fun W => by go_simp <;> with_reducible rfl) ?_; simp only [nP]) | (refine pX (by rfl) (by go_simp <;> with_reducible rfl) ?_; simp only [nP]))
 iterate 2 ((refine pR rfl (fun W => by go_simp <;> with_reducible rfl) ?_; simp only [nP]))
 refine pX rfl (by go_simp <;> with_reducible rfl) ?_; simp only [nP]; refine pM _ rfl rfl ?_; simp only [nP, nE]; iterate 2 ((refine pR rfl (fun W => by go_simp <;> with_reducible rfl) ?_; simp only [nP]))
 iterate 3 (first | (refine pR (by rfl) (fun W => by go_simp <;> with_reducible rfl) ?_; simp only [nP]) | (refine pX (by rfl) (by go_simp <;> with_reducible rfl) ?_; simp only [nP]))
 refine plan_nil ?_; simp only [tailL, List.filterMap_nil]; go_wp2_with fail; clear fM; clear hE0; refine nxt HM fun w9 M => ?_
 replace HM := M; clear M; obtain ⟨A1, B1, hA1, hB1, hd, -, hS⟩ := HM.out.beside (r := rowR tenE wv c.waits) (x := cellsR kx 37 x.cells) pk pk; refine (del_any w9 wv c.waits kx x hA1 (hd kx ((hB1.1 kx).2 rfl)) hB1.2 HWL.out).mono ?_; rintro e w10 ⟨v2, rfl, hU⟩; obtain ⟨wl, hwl⟩ : ∃ l, c.waits.filter (fun y => !toldB x y) = l := ⟨_, rfl⟩; rw [hwl] at hU HLF; have hm := hS _ _ hU; obtain ⟨a7, c7, rfl⟩ := hm.fact fun A h => row_len h
 replace HM := Hd hm; clear hU hm hS hd hA1 hB1 hwl; clear A1 B1; have fM := HM.out.fa; go_wp2_with fail; all_goals clear fM
 refine nxt HM fun w11 M => ?_
 replace HM := M; clear M; go_ret; rw [HearPost, HS.out, HLF.out, HLS.out]; have hm : Mem A w w11 [cellsR cb 112 (clC (.slice a6 ls.length c6) kv (.slice a7 wl.length c7) bv { c with m := ⟨x.token, ls, c.m.next + 1⟩, waits := wl }), rowR tenE (.slice a7 wl.length c7) wl, linR (.slice a6 ls.length c6) kv ls c.k.lines, cellsR ke 35 x.e.cells, cellsR kx 37 x.cells, readR bv c.bytes] := HM.out; exact ⟨rfl, (Mem.clClose (c := { c with m := ⟨x.token, ls, c.m.next + 1⟩, waits := wl }) (L := []) (Mem.sub hm (by repeat first | exact Sub.nil | refine Sub.cons (by with_reducible repeat first | exact ph | apply pt) ?_))).upd⟩
end
def hearsD (cb : Nat) : List (Int × Value) := [(8, .func (.func 117) #[.pointer (some ⟨cb, 0, none⟩)] #[]), (9, .func (.func 118) #[.pointer (some ⟨cb, 0, none⟩)] #[]), (10, .func (.func 119) #[.pointer (some ⟨cb, 0, none⟩)] #[]),
 (11, .func (.func 120) #[.pointer (some ⟨cb, 0, none⟩)] #[]), (12, .func (.func 121) #[.pointer (some ⟨cb, 0, none⟩)] #[])]
theorem sd_index {x : Sd} (h : sdB x = true) (hk : x.kind = 9) : 0 ≤ x.index ∧ x.index ≤ 2147483647 := by
 unfold sdB partsOf at h; rw [hk] at h; simp [Part.may] at h; exact h.2.1
theorem sd_mem {x : Sd} (h : sdB x = true) (hk : x.kind = 10 ∨ x.kind = 11) : 0 ≤ x.member ∧ x.member ≤ 15 := by
 unfold sdB partsOf at h; rcases hk with hk | hk <;> rw [hk] at h <;> simp [Part.may] at h <;> exact h.2
theorem hear_call (cb : Nat) (c : Cl) (x : Sd) (hx : sdB x = true) (hk : 8 ≤ x.kind ∧ x.kind ≤ 12) (hl : c.m.lines.length < 1000000) (hw : c.waits.length ≤ 1000) :
 ∃ f, lookI (hearsD cb) x.kind nofn = (.func (.func f) #[.pointer (some ⟨cb, 0, none⟩)] #[], true) ∧ (∀ args w, (callFunc f args).run Tryz.prog w = .ok (.enter f args) w) ∧ ∀ C W, (clR cb c).p C W → Calls Tryz.prog f #[.pointer (some ⟨cb, 0, none⟩), x.v] W (HearPost C W cb (c.hear x)) := by
 have h5 : x.kind = 8 ∨ x.kind = 9 ∨ x.kind = 10 ∨ x.kind = 11 ∨ x.kind = 12 := by omega
 rcases h5 with e | e | e | e | e
 · exact ⟨_, by rw [e]; rfl, enters_of Tryz.func117 (by kernel_rfl) rfl, fun C W h => by
    rw [show c.hear x = c.welcome x by unfold Cl.hear; rw [if_pos e]]; exact cwelcome_any W cb c x h⟩
 · exact ⟨_, by rw [e]; rfl, enters_of Tryz.func118 (by kernel_rfl) rfl, fun C W h => by
    rw [show c.hear x = c.line x by unfold Cl.hear; rw [if_neg (by omega), if_pos e]]; exact cline_any W cb c x h (sd_index hx e) hl hw⟩
 · exact ⟨_, by rw [e]; rfl, enters_of Tryz.func119 (by kernel_rfl) rfl, fun C W h => by
    rw [show c.hear x = ({ c with ty := c.ty.set x.member x.is }, false, 0) by unfold Cl.hear; rw [if_neg (by omega), if_neg (by omega), if_pos e]]; exact ctypes_any W cb c x h (sd_mem hx (.inl e))⟩
 · exact ⟨_, by rw [e]; rfl, enters_of Tryz.func120 (by kernel_rfl) rfl, fun C W h => by
    rw [show c.hear x = ({ c with he := c.he.set x.member x.is }, false, 0) by unfold Cl.hear; rw [if_neg (by omega), if_neg (by omega), if_neg (by omega), if_pos e]]; exact chere_any W cb c x h (sd_mem hx (.inr e))⟩
 · exact ⟨_, by rw [e]; rfl, enters_of Tryz.func121 (by kernel_rfl) rfl, fun C W h => by
    rw [show c.hear x = ({ c with on := false, why := x.number, bytes := [] }, false, 0) by unfold Cl.hear; rw [if_neg (by omega), if_neg (by omega), if_neg (by omega), if_neg (by omega), if_pos e]]; exact cbye_any W cb c x h⟩
theorem hear_none (cb : Nat) (c : Cl) (x : Sd) (hk : ¬ (8 ≤ x.kind ∧ x.kind ≤ 12)) : lookI (hearsD cb) x.kind nofn = (nofn, false) ∧ c.hear x = (c, false, 372) := by
 refine ⟨?_, ?_⟩
 · unfold lookI hearsD
   have a1 : ¬ (8 : Int) = x.kind := by omega
   have a2 : ¬ (9 : Int) = x.kind := by omega
   have a3 : ¬ (10 : Int) = x.kind := by omega
   have a4 : ¬ (11 : Int) = x.kind := by omega
   have a5 : ¬ (12 : Int) = x.kind := by omega
   simp [a1, a2, a3, a4, a5]
 · unfold Cl.hear
   rw [if_neg (by omega), if_neg (by omega), if_neg (by omega), if_neg (by omega), if_neg (by omega)]
end Go.Proofs.YtoadjbgpfihoiaaGreatDoor
