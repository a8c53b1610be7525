/- Texts PartE, PartF, SaidEq, one behind the other. Conditions: as each says. -/
import Derived.Test.YtoadjbgpfihoiaaGreatDoorRaK
set_option linter.unusedVariables false
set_option linter.unusedSimpArgs false
set_option maxHeartbeats 8000000
set_option maxRecDepth 100000
namespace Go.Proofs.YtoadjbgpfihoiaaGreatDoor
open Go.RowKit
section
def saidE : Ending := .panicked [{ v := .iface 24 (.int .i64 340), recovered := false }]
theorem fmust_any (w : World) (x : Bool) : Calls Tryz.prog 234 #[.bool x] w fun e w' => e = (if x then .returned (.tuple #[]) else saidE) ∧ w' = w := by
 cases x
 · go_enter Tryz.func234, Tryz.ntmps234
   go_wp2_with fail
   exact ⟨rfl, rfl, rfl⟩
 · go_enter Tryz.func234, Tryz.ntmps234
   go_wp2_with fail
   go_end0
   exact ⟨rfl, rfl⟩
abbrev rdV (b : Nat) : Value := .agg #[.pointer (some ⟨b, 0, none⟩)]
theorem fnum_any {A : Nat → Prop} (w : World) (b : Nat) (r : Rdr) (g : Int) (hg : 0 ≤ g) (hl : r.b.length ≤ 70368744177664) (h : (readerR b r).p A w) :
 Calls Tryz.prog 233 #[rdV b, .int .i64 g] w fun e w' => e = (if (r.num g).1.e = 0 then .returned (.int .i64 ((r.num g).2.1 : Int)) else saidE) ∧ Upd A w w' (readerR b (r.num g).1) := by
 have hno := r.num_e' g hg
 obtain ⟨⟨r1, n, no⟩, hq⟩ : ∃ q, r.num g = q := ⟨_, rfl⟩
 have HQ := Lib.hid hq
 rw [hq] at hno ⊢
 dsimp only at hno ⊢
 clear hq
 have HM := Lib.hid (Mem.start h)
 have HLL := Lib.hid hl
 clear h hl
 go_enter Tryz.func233, Tryz.ntmps233
 have fM := HM.out.fa
 go_wp2_with fail
 all_goals clear fM
 refine nxt HM fun w1 M => ?_
 clear HM; have HM := M; clear M
 obtain ⟨C, hC, hS⟩ := (HM.out.pick (r := readerR b r) pk).step
 refine (rnumber_any w1 b g r HLL.out hC).mono ?_
 rintro e w2 ⟨rfl, hU⟩
 replace HM := Lib.hid (hS _ _ hU)
 rw [HQ.out] at HM ⊢
 dsimp only at HM ⊢
 clear hU hS hC C
 by_cases he : no = 0
 · have he2 : r1.e = 0 := by rw [← hno]; exact he
   have HE2 := Lib.hid he2
   subst he
   clear hno he2
   have fM := HM.out.fa
   go_wp2_with fail
   all_goals clear fM
   refine (fmust_any _ _).mono ?_
   rintro e w' ⟨rfl, hwq⟩
   rw [hwq]
   clear hwq w'
   simp only [if_true]
   go_wp2_with fail
   go_ret
   try rw [if_pos HE2.out]
   exact ⟨rfl, (HM.out.pick (r := readerR b r1) pk).upd⟩
 · have he2 : ¬ r1.e = 0 := by rw [← hno]; exact he
   have HE2 := Lib.hid he2
   have he3 : (no == 0) = false := by simpa using he
   clear hno he2 he
   have fM := HM.out.fa
   go_wp2_with fail
   all_goals clear fM
   refine (fmust_any _ _).mono ?_
   rintro e w' ⟨rfl, hwq⟩
   rw [hwq]
   clear hwq w'
   simp only [Bool.false_eq_true, if_false, saidE]
   go_wp2_with fail
   try rw [if_neg HE2.out]
   exact ⟨rfl, rfl, (HM.out.pick (r := readerR b r1) pk).upd⟩
theorem ftxt_any {A : Nat → Prop} (w : World) (b : Nat) (r : Rdr) (g : Int) (hg : 0 ≤ g) (hl : r.b.length ≤ 70368744177664) (h : (readerR b r).p A w) :
 Calls Tryz.prog 247 #[rdV b, .int .i64 g] w fun e w' => e = (if (r.txt g).1.e = 0 then .returned (.string (bs (r.txt g).2.1)) else saidE) ∧ Upd A w w' (readerR b (r.txt g).1) := by
 have hno := r.txt_e' g hg
 obtain ⟨⟨r1, n, no⟩, hq⟩ : ∃ q, r.txt g = q := ⟨_, rfl⟩
 have HQ := Lib.hid hq
 rw [hq] at hno ⊢
 dsimp only at hno ⊢
 clear hq
 have HM := Lib.hid (Mem.start h)
 have HLL := Lib.hid hl
 clear h hl
 go_enter Tryz.func247, Tryz.ntmps247
 have fM := HM.out.fa
 go_wp2_with fail
 all_goals clear fM
 refine nxt HM fun w1 M => ?_
 clear HM; have HM := M; clear M
 obtain ⟨C, hC, hS⟩ := (HM.out.pick (r := readerR b r) pk).step
 refine (rtext_any w1 b g r HLL.out hC).mono ?_
 rintro e w2 ⟨rfl, hU⟩
 replace HM := Lib.hid (hS _ _ hU)
 rw [HQ.out] at HM ⊢
 dsimp only at HM ⊢
 clear hU hS hC C
 by_cases he : no = 0
 · have he2 : r1.e = 0 := by rw [← hno]; exact he
   have HE2 := Lib.hid he2
   subst he
   clear hno he2
   have fM := HM.out.fa
   go_wp2_with fail
   all_goals clear fM
   refine (fmust_any _ _).mono ?_
   rintro e w' ⟨rfl, hwq⟩
   rw [hwq]
   clear hwq w'
   simp only [if_true]
   go_wp2_with fail
   go_ret
   try rw [if_pos HE2.out]
   exact ⟨rfl, (HM.out.pick (r := readerR b r1) pk).upd⟩
 · have he2 : ¬ r1.e = 0 := by rw [← hno]; exact he
   have HE2 := Lib.hid he2
   have he3 : (no == 0) = false := by simpa using he
   clear hno he2 he
   have fM := HM.out.fa
   go_wp2_with fail
   all_goals clear fM
   refine (fmust_any _ _).mono ?_
   rintro e w' ⟨rfl, hwq⟩
   rw [hwq]
   clear hwq w'
   simp only [Bool.false_eq_true, if_false, saidE]
   go_wp2_with fail
   try rw [if_neg HE2.out]
   exact ⟨rfl, rfl, (HM.out.pick (r := readerR b r1) pk).upd⟩
def takeF : Part → Nat
 | .member => 241
 | .number _ => 252
 | .index => 260
 | .is => 265
 | .said => 256
 | .token => 246
 | .entry => 271
def TakeP (A : Nat → Prop) (w : World) (b sb : Nat) (p : Part) (r : Rdr) (s : Sd) (e : Ending) (w' : World) : Prop :=
 e = (if (p.take r s).1.e = 0 then .returned (.tuple #[]) else saidE) ∧ ∃ s' : Sd, ((p.take r s).1.e = 0 → s' = (p.take r s).2) ∧ Upd A w w' (listR [readerR b (p.take r s).1, cellsR sb 37 s'.cells])
theorem take_member {A : Nat → Prop} (w : World) (b sb : Nat) (n : Int) (r : Rdr) (s : Sd) (hl : r.b.length ≤ 70368744177664) (h : SepL [readerR b r, cellsR sb 37 s.cells] A w) :
 Calls Tryz.prog 241 #[rdV b, .pointer (some ⟨sb, 0, none⟩)] w (TakeP A w b sb .member r s) := by
 obtain ⟨⟨r1, x, no⟩, hq⟩ : ∃ q, r.num 15 = q := ⟨_, rfl⟩
 have HQ := Lib.hid hq
 have HP := Lib.hid (show Part.take .member r s = (r1, { s with member := x }) by show ((r.num 15).1, { s with member := (r.num 15).2.1 }) = _; rw [hq])
 clear hq
 have HM := Lib.hid (Mem.start (F := A) (r := listR [readerR b r, cellsR sb 37 s.cells]) h).unlist
 simp only [List.cons_append, List.nil_append] at HM
 have HLL := Lib.hid hl
 unfold Sd.cells at HM
 clear h hl
 go_enter Tryz.func241, Tryz.ntmps241
 have fM := HM.out.fa
 go_wp2_with fail
 all_goals clear fM
 refine nxt HM fun w1 M => ?_
 clear HM; have HM := M; clear M
 obtain ⟨C, hC, hS⟩ := (HM.out.pick (r := readerR b r) pk).step
 refine (fnum_any w1 b r 15 (by decide) HLL.out hC).mono ?_
 rintro e w2 ⟨rfl, hU⟩
 replace HM := Lib.hid (hS _ _ hU)
 rw [HQ.out] at HM ⊢
 dsimp only at HM ⊢
 clear hU hS hC C
 by_cases he : r1.e = 0
 · rw [if_pos he]
   have HE := Lib.hid he
   clear he
   have fM := HM.out.fa
   go_wp2_with fail
   all_goals clear fM
   go_end0
   unfold TakeP
   rw [HP.out]
   dsimp only
   rw [if_pos HE.out]
   refine ⟨rfl, { s with member := x }, fun _ => rfl, ?_⟩
   refine nxt HM fun w3 M => ?_
   clear HM; have HM := M; clear M
   exact (Mem.list' (L1 := [readerR b r1, cellsR sb 37 ({ s with member := x } : Sd).cells]) (L := []) (Mem.sub HM.out (by repeat first | exact Sub.nil | refine Sub.cons (by with_reducible repeat first | exact ph | apply pt) ?_))).upd
 · rw [if_neg he]
   have HE := Lib.hid he
   clear he
   unfold saidE
   go_wp2_with fail
   refine ⟨rfl, ?_⟩
   unfold TakeP
   rw [HP.out]
   dsimp only
   rw [if_neg HE.out]
   exact ⟨rfl, s, fun h => absurd h HE.out, (Mem.list' (L1 := [readerR b r1, cellsR sb 37 s.cells]) (L := []) (Mem.sub HM.out (by repeat first | exact Sub.nil | refine Sub.cons (by with_reducible repeat first | exact ph | apply pt) ?_))).upd⟩
theorem take_number {A : Nat → Prop} (w : World) (b sb : Nat) (n : Int) (r : Rdr) (s : Sd) (hl : r.b.length ≤ 70368744177664) (h : SepL [readerR b r, cellsR sb 37 s.cells] A w) :
 Calls Tryz.prog 252 #[rdV b, .pointer (some ⟨sb, 0, none⟩)] w (TakeP A w b sb (.number n) r s) := by
 obtain ⟨⟨r1, x, no⟩, hq⟩ : ∃ q, r.num 2147483647 = q := ⟨_, rfl⟩
 have HQ := Lib.hid hq
 have HP := Lib.hid (show Part.take (.number n) r s = (r1, { s with number := x }) by show ((r.num 2147483647).1, { s with number := (r.num 2147483647).2.1 }) = _; rw [hq])
 clear hq
 have HM := Lib.hid (Mem.start (F := A) (r := listR [readerR b r, cellsR sb 37 s.cells]) h).unlist
 simp only [List.cons_append, List.nil_append] at HM
 have HLL := Lib.hid hl
 unfold Sd.cells at HM
 clear h hl
 go_enter Tryz.func252, Tryz.ntmps252
 have fM := HM.out.fa
 go_wp2_with fail
 all_goals clear fM
 refine nxt HM fun w1 M => ?_
 clear HM; have HM := M; clear M
 obtain ⟨C, hC, hS⟩ := (HM.out.pick (r := readerR b r) pk).step
 refine (fnum_any w1 b r 2147483647 (by decide) HLL.out hC).mono ?_
 rintro e w2 ⟨rfl, hU⟩
 replace HM := Lib.hid (hS _ _ hU)
 rw [HQ.out] at HM ⊢
 dsimp only at HM ⊢
 clear hU hS hC C
 by_cases he : r1.e = 0
 · rw [if_pos he]
   have HE := Lib.hid he
   clear he
   have fM := HM.out.fa
   go_wp2_with fail
   all_goals clear fM
   go_end0
   unfold TakeP
   rw [HP.out]
   dsimp only
   rw [if_pos HE.out]
   refine ⟨rfl, { s with number := x }, fun _ => rfl, ?_⟩
   refine nxt HM fun w3 M => ?_
   clear HM; have HM := M; clear M
   exact (Mem.list' (L1 := [readerR b r1, cellsR sb 37 ({ s with number := x } : Sd).cells]) (L := []) (Mem.sub HM.out (by repeat first | exact Sub.nil | refine Sub.cons (by with_reducible repeat first | exact ph | apply pt) ?_))).upd
 · rw [if_neg he]
   have HE := Lib.hid he
   clear he
   unfold saidE
   go_wp2_with fail
   refine ⟨rfl, ?_⟩
   unfold TakeP
   rw [HP.out]
   dsimp only
   rw [if_neg HE.out]
   exact ⟨rfl, s, fun h => absurd h HE.out, (Mem.list' (L1 := [readerR b r1, cellsR sb 37 s.cells]) (L := []) (Mem.sub HM.out (by repeat first | exact Sub.nil | refine Sub.cons (by with_reducible repeat first | exact ph | apply pt) ?_))).upd⟩
theorem take_index {A : Nat → Prop} (w : World) (b sb : Nat) (n : Int) (r : Rdr) (s : Sd) (hl : r.b.length ≤ 70368744177664) (h : SepL [readerR b r, cellsR sb 37 s.cells] A w) :
 Calls Tryz.prog 260 #[rdV b, .pointer (some ⟨sb, 0, none⟩)] w (TakeP A w b sb .index r s) := by
 obtain ⟨⟨r1, x, no⟩, hq⟩ : ∃ q, r.num 2147483647 = q := ⟨_, rfl⟩
 have HQ := Lib.hid hq
 have HP := Lib.hid (show Part.take .index r s = (r1, { s with index := x }) by show ((r.num 2147483647).1, { s with index := (r.num 2147483647).2.1 }) = _; rw [hq])
 clear hq
 have HM := Lib.hid (Mem.start (F := A) (r := listR [readerR b r, cellsR sb 37 s.cells]) h).unlist
 simp only [List.cons_append, List.nil_append] at HM
 have HLL := Lib.hid hl
 unfold Sd.cells at HM
 clear h hl
 go_enter Tryz.func260, Tryz.ntmps260
 have fM := HM.out.fa
 go_wp2_with fail
 all_goals clear fM
 refine nxt HM fun w1 M => ?_
 clear HM; have HM := M; clear M
 obtain ⟨C, hC, hS⟩ := (HM.out.pick (r := readerR b r) pk).step
 refine (fnum_any w1 b r 2147483647 (by decide) HLL.out hC).mono ?_
 rintro e w2 ⟨rfl, hU⟩
 replace HM := Lib.hid (hS _ _ hU)
 rw [HQ.out] at HM ⊢
 dsimp only at HM ⊢
 clear hU hS hC C
 by_cases he : r1.e = 0
 · rw [if_pos he]
   have HE := Lib.hid he
   clear he
   have fM := HM.out.fa
   go_wp2_with fail
   all_goals clear fM
   go_end0
   unfold TakeP
   rw [HP.out]
   dsimp only
   rw [if_pos HE.out]
   refine ⟨rfl, { s with index := x }, fun _ => rfl, ?_⟩
   refine nxt HM fun w3 M => ?_
   clear HM; have HM := M; clear M
   exact (Mem.list' (L1 := [readerR b r1, cellsR sb 37 ({ s with index := x } : Sd).cells]) (L := []) (Mem.sub HM.out (by repeat first | exact Sub.nil | refine Sub.cons (by with_reducible repeat first | exact ph | apply pt) ?_))).upd
 · rw [if_neg he]
   have HE := Lib.hid he
   clear he
   unfold saidE
   go_wp2_with fail
   refine ⟨rfl, ?_⟩
   unfold TakeP
   rw [HP.out]
   dsimp only
   rw [if_neg HE.out]
   exact ⟨rfl, s, fun h => absurd h HE.out, (Mem.list' (L1 := [readerR b r1, cellsR sb 37 s.cells]) (L := []) (Mem.sub HM.out (by repeat first | exact Sub.nil | refine Sub.cons (by with_reducible repeat first | exact ph | apply pt) ?_))).upd⟩
theorem take_said {A : Nat → Prop} (w : World) (b sb : Nat) (n : Int) (r : Rdr) (s : Sd) (hl : r.b.length ≤ 70368744177664) (h : SepL [readerR b r, cellsR sb 37 s.cells] A w) :
 Calls Tryz.prog 256 #[rdV b, .pointer (some ⟨sb, 0, none⟩)] w (TakeP A w b sb .said r s) := by
 obtain ⟨⟨r1, x, no⟩, hq⟩ : ∃ q, r.txt 200 = q := ⟨_, rfl⟩
 have HQ := Lib.hid hq
 have HP := Lib.hid (show Part.take .said r s = (r1, { s with text := x }) by show ((r.txt 200).1, { s with text := (r.txt 200).2.1 }) = _; rw [hq])
 clear hq
 have HM := Lib.hid (Mem.start (F := A) (r := listR [readerR b r, cellsR sb 37 s.cells]) h).unlist
 simp only [List.cons_append, List.nil_append] at HM
 have HLL := Lib.hid hl
 unfold Sd.cells at HM
 clear h hl
 go_enter Tryz.func256, Tryz.ntmps256
 have fM := HM.out.fa
 go_wp2_with fail
 all_goals clear fM
 refine nxt HM fun w1 M => ?_
 clear HM; have HM := M; clear M
 obtain ⟨C, hC, hS⟩ := (HM.out.pick (r := readerR b r) pk).step
 refine (ftxt_any w1 b r 200 (by decide) HLL.out hC).mono ?_
 rintro e w2 ⟨rfl, hU⟩
 replace HM := Lib.hid (hS _ _ hU)
 rw [HQ.out] at HM ⊢
 dsimp only at HM ⊢
 clear hU hS hC C
 by_cases he : r1.e = 0
 · rw [if_pos he]
   have HE := Lib.hid he
   clear he
   have fM := HM.out.fa
   go_wp2_with fail
   all_goals clear fM
   go_end0
   unfold TakeP
   rw [HP.out]
   dsimp only
   rw [if_pos HE.out]
   refine ⟨rfl, { s with text := x }, fun _ => rfl, ?_⟩
   refine nxt HM fun w3 M => ?_
   clear HM; have HM := M; clear M
   exact (Mem.list' (L1 := [readerR b r1, cellsR sb 37 ({ s with text := x } : Sd).cells]) (L := []) (Mem.sub HM.out (by repeat first | exact Sub.nil | refine Sub.cons (by with_reducible repeat first | exact ph | apply pt) ?_))).upd
 · rw [if_neg he]
   have HE := Lib.hid he
   clear he
   unfold saidE
   go_wp2_with fail
   refine ⟨rfl, ?_⟩
   unfold TakeP
   rw [HP.out]
   dsimp only
   rw [if_neg HE.out]
   exact ⟨rfl, s, fun h => absurd h HE.out, (Mem.list' (L1 := [readerR b r1, cellsR sb 37 s.cells]) (L := []) (Mem.sub HM.out (by repeat first | exact Sub.nil | refine Sub.cons (by with_reducible repeat first | exact ph | apply pt) ?_))).upd⟩
theorem take_token {A : Nat → Prop} (w : World) (b sb : Nat) (n : Int) (r : Rdr) (s : Sd) (hl : r.b.length ≤ 70368744177664) (h : SepL [readerR b r, cellsR sb 37 s.cells] A w) :
 Calls Tryz.prog 246 #[rdV b, .pointer (some ⟨sb, 0, none⟩)] w (TakeP A w b sb .token r s) := by
 obtain ⟨⟨r1, x, no⟩, hq⟩ : ∃ q, r.txt 200 = q := ⟨_, rfl⟩
 have HQ := Lib.hid hq
 have HP := Lib.hid (show Part.take .token r s = (r1, { s with token := x }) by show ((r.txt 200).1, { s with token := (r.txt 200).2.1 }) = _; rw [hq])
 clear hq
 have HM := Lib.hid (Mem.start (F := A) (r := listR [readerR b r, cellsR sb 37 s.cells]) h).unlist
 simp only [List.cons_append, List.nil_append] at HM
 have HLL := Lib.hid hl
 unfold Sd.cells at HM
 clear h hl
 go_enter Tryz.func246, Tryz.ntmps246
 have fM := HM.out.fa
 go_wp2_with fail
 all_goals clear fM
 refine nxt HM fun w1 M => ?_
 clear HM; have HM := M; clear M
 obtain ⟨C, hC, hS⟩ := (HM.out.pick (r := readerR b r) pk).step
 refine (ftxt_any w1 b r 200 (by decide) HLL.out hC).mono ?_
 rintro e w2 ⟨rfl, hU⟩
 replace HM := Lib.hid (hS _ _ hU)
 rw [HQ.out] at HM ⊢
 dsimp only at HM ⊢
 clear hU hS hC C
 by_cases he : r1.e = 0
 · rw [if_pos he]
   have HE := Lib.hid he
   clear he
   have fM := HM.out.fa
   go_wp2_with fail
   all_goals clear fM
   go_end0
   unfold TakeP
   rw [HP.out]
   dsimp only
   rw [if_pos HE.out]
   refine ⟨rfl, { s with token := x }, fun _ => rfl, ?_⟩
   refine nxt HM fun w3 M => ?_
   clear HM; have HM := M; clear M
   exact (Mem.list' (L1 := [readerR b r1, cellsR sb 37 ({ s with token := x } : Sd).cells]) (L := []) (Mem.sub HM.out (by repeat first | exact Sub.nil | refine Sub.cons (by with_reducible repeat first | exact ph | apply pt) ?_))).upd
 · rw [if_neg he]
   have HE := Lib.hid he
   clear he
   unfold saidE
   go_wp2_with fail
   refine ⟨rfl, ?_⟩
   unfold TakeP
   rw [HP.out]
   dsimp only
   rw [if_neg HE.out]
   exact ⟨rfl, s, fun h => absurd h HE.out, (Mem.list' (L1 := [readerR b r1, cellsR sb 37 s.cells]) (L := []) (Mem.sub HM.out (by repeat first | exact Sub.nil | refine Sub.cons (by with_reducible repeat first | exact ph | apply pt) ?_))).upd⟩
theorem take_is {A : Nat → Prop} (w : World) (b sb : Nat) (r : Rdr) (s : Sd) (hl : r.b.length ≤ 70368744177664) (h : SepL [readerR b r, cellsR sb 37 s.cells] A w) :
 Calls Tryz.prog 265 #[rdV b, .pointer (some ⟨sb, 0, none⟩)] w (TakeP A w b sb .is r s) := by
 have hno := r.tru_e'
 obtain ⟨⟨r1, x, no⟩, hq⟩ : ∃ q, r.tru = q := ⟨_, rfl⟩
 have HQ := Lib.hid hq
 have HP := Lib.hid (show Part.take .is r s = (r1, { s with is := x }) by show (r.tru.1, { s with is := r.tru.2.1 }) = _; rw [hq])
 rw [hq] at hno
 dsimp only at hno
 clear hq
 have HM := Lib.hid (Mem.start (F := A) (r := listR [readerR b r, cellsR sb 37 s.cells]) h).unlist
 simp only [List.cons_append, List.nil_append] at HM
 have HLL := Lib.hid hl
 unfold Sd.cells at HM
 clear h hl
 go_enter Tryz.func265, Tryz.ntmps265
 have fM := HM.out.fa
 go_wp2_with fail
 all_goals clear fM
 refine nxt HM fun w1 M => ?_
 clear HM; have HM := M; clear M
 obtain ⟨C, hC, hS⟩ := (HM.out.pick (r := readerR b r) pk).step
 refine (rtruth_any w1 b r HLL.out hC).mono ?_
 rintro e w2 ⟨rfl, hU⟩
 replace HM := Lib.hid (hS _ _ hU)
 rw [HQ.out] at HM ⊢
 dsimp only at HM ⊢
 clear hU hS hC C
 by_cases he : no = 0
 · have HE := Lib.hid (show r1.e = 0 by rw [← hno]; exact he)
   subst he
   clear hno
   have fM := HM.out.fa
   go_wp2_with fail
   all_goals clear fM
   refine (fmust_any _ _).mono ?_
   rintro e w' ⟨rfl, hwq⟩
   rw [hwq]
   clear hwq w'
   simp only [if_true]
   have fM := HM.out.fa
   go_wp2_with fail
   all_goals clear fM
   go_end0
   unfold TakeP
   rw [HP.out]
   dsimp only
   rw [if_pos HE.out]
   refine ⟨rfl, { s with is := x }, fun _ => rfl, ?_⟩
   refine nxt HM fun w3 M => ?_
   clear HM; have HM := M; clear M
   exact (Mem.list' (L1 := [readerR b r1, cellsR sb 37 ({ s with is := x } : Sd).cells]) (L := []) (Mem.sub HM.out (by repeat first | exact Sub.nil | refine Sub.cons (by with_reducible repeat first | exact ph | apply pt) ?_))).upd
 · have HE := Lib.hid (show ¬ r1.e = 0 by rw [← hno]; exact he)
   have he3 : (no == 0) = false := by simpa using he
   clear hno he
   have fM := HM.out.fa
   go_wp2_with fail
   all_goals clear fM
   refine (fmust_any _ _).mono ?_
   rintro e w' ⟨rfl, hwq⟩
   rw [hwq]
   clear hwq w'
   simp only [Bool.false_eq_true, if_false]
   unfold saidE
   go_wp2_with fail
   refine ⟨rfl, ?_⟩
   unfold TakeP
   rw [HP.out]
   dsimp only
   rw [if_neg HE.out]
   exact ⟨rfl, s, fun h => absurd h HE.out, (Mem.list' (L1 := [readerR b r1, cellsR sb 37 s.cells]) (L := []) (Mem.sub HM.out (by repeat first | exact Sub.nil | refine Sub.cons (by with_reducible repeat first | exact ph | apply pt) ?_))).upd⟩
end
section
theorem take_entry {A : Nat → Prop} (w : World) (b sb : Nat) (r : Rdr) (s : Sd) (hl : r.b.length ≤ 70368744177664) (h : SepL [readerR b r, cellsR sb 37 s.cells] A w) :
 Calls Tryz.prog 271 #[rdV b, .pointer (some ⟨sb, 0, none⟩)] w (TakeP A w b sb .entry r s) := by
 obtain ⟨⟨r1, x1, no1⟩, hq1⟩ : ∃ q, r.num 4 = q := ⟨_, rfl⟩
 obtain ⟨⟨r2, x2, no2⟩, hq2⟩ : ∃ q, r1.num 15 = q := ⟨_, rfl⟩
 obtain ⟨⟨r3, x3, no3⟩, hq3⟩ : ∃ q, r2.num 2147483647 = q := ⟨_, rfl⟩
 obtain ⟨⟨r4, x4, no4⟩, hq4⟩ : ∃ q, r3.txt 200 = q := ⟨_, rfl⟩
 have hp : Part.take .entry r s = if x1 = 4 then (r4, { s with e := ⟨x1, x2, x3, x4⟩ }) else (r2, { s with e := ⟨x1, x2, s.e.number, s.e.text⟩ }) := by
  show (if (r.num 4).2.1 = 4 then _ else _) = _
  rw [hq1]; dsimp only
  rw [hq2]; dsimp only
  rw [hq3]; dsimp only
  rw [hq4]
 have hl1 : r1.b.length ≤ r.b.length := by have := r.num_len 4; rwa [hq1] at this
 have hl2 : r2.b.length ≤ r1.b.length := by have := r1.num_len 15; rwa [hq2] at this
 have hl3 : r3.b.length ≤ r2.b.length := by have := r2.num_len 2147483647; rwa [hq3] at this
 have HQ := Lib.hid (show _ ∧ _ ∧ _ ∧ _ from ⟨hq1, hq2, hq3, hq4⟩)
 have HLN := Lib.hid (show r.b.length ≤ 70368744177664 ∧ r1.b.length ≤ 70368744177664 ∧ r2.b.length ≤ 70368744177664 ∧ r3.b.length ≤ 70368744177664 by omega)
 have s12 : r1.e ≠ 0 → r2 = r1 := fun h => by have := r1.num_err 15 h; rw [hq2] at this; exact congrArg Prod.fst this
 have s23 : r2.e ≠ 0 → r3 = r2 := fun h => by have := r2.num_err 2147483647 h; rw [hq3] at this; exact congrArg Prod.fst this
 have s34 : r3.e ≠ 0 → r4 = r3 := fun h => by have := Rdr.txt_sticky 200 h; have h2 := r3.num_err 200 h; have : r3.txt 200 = (r3, [], r3.e) := by (unfold Rdr.txt; rw [h2]; exact if_pos h)
                                              rw [hq4] at this; exact congrArg Prod.fst this
 clear hq1 hq2 hq3 hq4 hl1 hl2 hl3
 have HM := Lib.hid (Mem.start (F := A) (r := listR [readerR b r, cellsR sb 37 s.cells]) h).unlist
 simp only [List.cons_append, List.nil_append] at HM
 have HLL := Lib.hid hl
 unfold Sd.cells at HM
 clear h hl
 show Calls _ 271 _ _ _
 go_enter Tryz.func271, Tryz.ntmps271
 have fM := HM.out.fa
 go_wp2_with fail
 all_goals clear fM
 obtain ⟨kb, hkb⟩ : ∃ k, w.heap.size = k := ⟨_, rfl⟩
 refine nxt HM fun w1 M => ?_
 clear HM; have HM := M; clear M
 rw [hkb] at HM ⊢
 clear hkb
 obtain ⟨C, hC, hn1, hn2, hS⟩ := HM.out.apart2 (r := readerR b r) (b1 := kb) (b2 := sb) (by with_reducible repeat first | exact ph | apply pt) (by with_reducible repeat first | exact ph | apply pt) (by with_reducible repeat first | exact ph | apply pt)
 by_cases e1 : r1.e = 0
 case neg =>
  have hp' : Part.take .entry r s = (r1, (Part.take .entry r s).2) := by
   have h2 := s12 e1
   subst h2
   have h3 := s23 e1
   subst h3
   have h4 := s34 e1
   subst h4
   rw [hp]; split <;> rfl
  obtain ⟨s9, hs9⟩ : ∃ s9, (Part.take .entry r s).2 = s9 := ⟨_, rfl⟩
  rw [hs9] at hp'
  have HP := Lib.hid hp'
  have HE := Lib.hid e1
  clear hp hp' hs9 e1 s12 s23 s34
  have fM := HM.out.fa
  have hE0 : Keeps (C) w1 w1.drew := (Keeps.refl _ _).drew
  refine wp_region_plan [(0, 0), (0, 1), (3, 2), (1, 4), (2, 3)] [4] [3, 5, 6, 7, 8, 9, 10, 11] [5, 6, 7, 8, 9, 10, 11] (ClsK (C) w1) (by kernel_rfl) (by kernel_rfl) (by kernel_rfl) rfl rfl (ClsK.of hE0) (fun _ _ _ d _ h => by cases d <;> exact h) ?_; simp only [planL, nL]
  iterate 2 (refine pM _ rfl rfl ?_; simp only [nP, nE])
  refine pX rfl (by go_simp <;> with_reducible rfl) ?_; simp only [nP]
  refine pK rfl (fun W => by go_simp <;> with_reducible rfl) ?_; simp only [nP]
  refine plan_does rfl (fun K hK => ?_)
  go_wp2_with fail
  refine (fnum_any _ b r 4 (by decide) HLN.out.1 (Res.keeps _ hC (Ext.drew0 w1) (fun _ _ => noB _))).mono ?_
  rintro e w2 ⟨rfl, hU⟩
  rw [HQ.out.1] at hU ⊢
  dsimp only at hU ⊢
  rw [if_neg HE.out]
  unfold saidE
  refine ⟨rfl, ?_⟩
  replace HM := Lib.hid (hS _ _ (hU.pre (Ext.drew0 w1)))
  clear hK K hE0 hU hS hC hn1 hn2 fM
  unfold TakeP
  rw [HP.out]
  dsimp only
  rw [if_neg HE.out]
  exact ⟨rfl, s, fun h => absurd h HE.out, (Mem.list' (L1 := [readerR b r1, cellsR sb 37 (s : Sd).cells]) (L := []) (Mem.sub HM.out (by repeat first | exact Sub.nil | refine Sub.cons (by with_reducible repeat first | exact ph | apply pt) ?_))).upd⟩
 have HE1 := Lib.hid e1
 clear e1 s12
 by_cases e2 : r2.e = 0
 case neg =>
  have hp' : Part.take .entry r s = (r2, (Part.take .entry r s).2) := by
   have h3 := s23 e2
   subst h3
   have h4 := s34 e2
   subst h4
   rw [hp]; split <;> rfl
  obtain ⟨s9, hs9⟩ : ∃ s9, (Part.take .entry r s).2 = s9 := ⟨_, rfl⟩
  rw [hs9] at hp'
  have HP := Lib.hid hp'
  have HE := Lib.hid e2
  clear hp hp' hs9 e2 s23 s34
  have fM := HM.out.fa
  have hE0 : Keeps (C) w1 w1.drew := (Keeps.refl _ _).drew
  refine wp_region_plan [(0, 0), (0, 1), (3, 2), (1, 4), (2, 3)] [4] [3, 5, 6, 7, 8, 9, 10, 11] [5, 6, 7, 8, 9, 10, 11] (ClsK (C) w1) (by kernel_rfl) (by kernel_rfl) (by kernel_rfl) rfl rfl (ClsK.of hE0) (fun _ _ _ d _ h => by cases d <;> exact h) ?_; simp only [planL, nL]
  iterate 2 (refine pM _ rfl rfl ?_; simp only [nP, nE])
  refine pX rfl (by go_simp <;> with_reducible rfl) ?_; simp only [nP]
  refine pK rfl (fun W => by go_simp <;> with_reducible rfl) ?_; simp only [nP]
  refine plan_does rfl (fun K hK => ?_)
  go_wp2_with fail
  refine (fnum_any _ b r 4 (by decide) HLN.out.1 (Res.keeps _ hC (Ext.drew0 w1) (fun _ _ => noB _))).mono ?_
  rintro e w2 ⟨rfl, hU⟩
  rw [HQ.out.1] at hU ⊢
  dsimp only at hU ⊢
  rw [if_pos HE1.out]
  have hU2 := hU.pre (Ext.drew0 w1)
  have hE1 := hU2.keepsTo
  clear hU
  refine hK _ _ ⟨ClsK.of (by assumption), ?_⟩; clear hK K; try simp only [nP]
  refine plan_nil ?_; simp only [tailL, List.filterMap_cons, List.filterMap_nil, nL]; change wpList _ _ _ (_ :: _ :: _ :: _ :: _ :: _ :: _ :: []) _ _
  clear fM
  replace HM := Lib.hid (hS _ _ hU2)
  clear hU2 hE1 hE0 hS hC hn1 hn2
  have fM := HM.out.fa
  go_wp2_with fail
  all_goals clear fM
  obtain ⟨C2, hC2, hS2⟩ := (HM.out.pick (r := readerR b r1) pk).step
  refine (fnum_any _ b r1 15 (by decide) HLN.out.2.1 hC2).mono ?_
  rintro e w3 ⟨rfl, hU⟩
  rw [HQ.out.2.1] at hU ⊢
  dsimp only at hU ⊢
  replace HM := Lib.hid (hS2 _ _ hU)
  clear hU hC2 hS2
  clear C2
  rw [if_neg HE.out]
  unfold saidE
  go_wp2_with fail
  refine ⟨rfl, ?_⟩
  unfold TakeP
  rw [HP.out]
  dsimp only
  rw [if_neg HE.out]
  exact ⟨rfl, s, fun h => absurd h HE.out, (Mem.list' (L1 := [readerR b r2, cellsR sb 37 (s : Sd).cells]) (L := []) (Mem.sub HM.out (by repeat first | exact Sub.nil | refine Sub.cons (by with_reducible repeat first | exact ph | apply pt) ?_))).upd⟩
 have HE2 := Lib.hid e2
 clear e2 s23
 by_cases hx : x1 = 4
 case neg =>
  have HP := Lib.hid (show Part.take .entry r s = (r2, { s with e := ⟨x1, x2, s.e.number, s.e.text⟩ }) by rw [hp, if_neg hx])
  have hx' : ¬ (x1 : Int) = 4 := by omega
  clear hp s34 hx
  have fM := HM.out.fa
  have hE0 : Keeps (C) w1 w1.drew := (Keeps.refl _ _).drew
  refine wp_region_plan [(0, 0), (0, 1), (3, 2), (1, 4), (2, 3)] [4] [3, 5, 6, 7, 8, 9, 10, 11] [5, 6, 7, 8, 9, 10, 11] (ClsK (C) w1) (by kernel_rfl) (by kernel_rfl) (by kernel_rfl) rfl rfl (ClsK.of hE0) (fun _ _ _ d _ h => by cases d <;> exact h) ?_; simp only [planL, nL]
  iterate 2 (refine pM _ rfl rfl ?_; simp only [nP, nE])
  refine pX rfl (by go_simp <;> with_reducible rfl) ?_; simp only [nP]
  refine pK rfl (fun W => by go_simp <;> with_reducible rfl) ?_; simp only [nP]
  refine plan_does rfl (fun K hK => ?_)
  go_wp2_with fail
  refine (fnum_any _ b r 4 (by decide) HLN.out.1 (Res.keeps _ hC (Ext.drew0 w1) (fun _ _ => noB _))).mono ?_
  rintro e w2 ⟨rfl, hU⟩
  rw [HQ.out.1] at hU ⊢
  dsimp only at hU ⊢
  rw [if_pos HE1.out]
  have hU2 := hU.pre (Ext.drew0 w1)
  have hE1 := hU2.keepsTo
  clear hU
  refine hK _ _ ⟨ClsK.of (by assumption), ?_⟩; clear hK K; try simp only [nP]
  refine plan_nil ?_; simp only [tailL, List.filterMap_cons, List.filterMap_nil, nL]; change wpList _ _ _ (_ :: _ :: _ :: _ :: _ :: _ :: _ :: []) _ _
  clear fM
  replace HM := Lib.hid (hS _ _ hU2)
  clear hU2 hE1 hE0 hS hC hn1 hn2
  have fM := HM.out.fa
  go_wp2_with fail
  all_goals clear fM
  obtain ⟨C2, hC2, hS2⟩ := (HM.out.pick (r := readerR b r1) pk).step
  refine (fnum_any _ b r1 15 (by decide) HLN.out.2.1 hC2).mono ?_
  rintro e w3 ⟨rfl, hU⟩
  rw [HQ.out.2.1] at hU ⊢
  dsimp only at hU ⊢
  replace HM := Lib.hid (hS2 _ _ hU)
  clear hU hC2 hS2
  clear C2
  rw [if_pos HE2.out]
  have fM := HM.out.fa
  go_wp2_with fail
  all_goals clear fM
  go_end0
  unfold TakeP
  rw [HP.out]
  dsimp only
  rw [if_pos HE2.out]
  refine ⟨rfl, { s with e := ⟨x1, x2, s.e.number, s.e.text⟩ }, fun _ => rfl, ?_⟩
  refine nxt HM fun w4 M => ?_
  clear HM; have HM := M; clear M
  exact (Mem.list' (L1 := [readerR b r2, cellsR sb 37 ({ s with e := ⟨x1, x2, s.e.number, s.e.text⟩ } : Sd).cells]) (L := []) (Mem.sub HM.out (by repeat first | exact Sub.nil | refine Sub.cons (by with_reducible repeat first | exact ph | apply pt) ?_))).upd
 subst hx
 have HP4 := Lib.hid (show Part.take .entry r s = (r4, { s with e := ⟨4, x2, x3, x4⟩ }) by rw [hp, if_pos rfl]; rfl)
 clear hp
 by_cases e3 : r3.e = 0
 case neg =>
  have h4 := s34 e3
  subst h4
  have HP := Lib.hid HP4.out
  have HE := Lib.hid e3
  clear e3 s34 HP4
  have fM := HM.out.fa
  have hE0 : Keeps (C) w1 w1.drew := (Keeps.refl _ _).drew
  refine wp_region_plan [(0, 0), (0, 1), (3, 2), (1, 4), (2, 3)] [4] [3, 5, 6, 7, 8, 9, 10, 11] [5, 6, 7, 8, 9, 10, 11] (ClsK (C) w1) (by kernel_rfl) (by kernel_rfl) (by kernel_rfl) rfl rfl (ClsK.of hE0) (fun _ _ _ d _ h => by cases d <;> exact h) ?_; simp only [planL, nL]
  iterate 2 (refine pM _ rfl rfl ?_; simp only [nP, nE])
  refine pX rfl (by go_simp <;> with_reducible rfl) ?_; simp only [nP]
  refine pK rfl (fun W => by go_simp <;> with_reducible rfl) ?_; simp only [nP]
  refine plan_does rfl (fun K hK => ?_)
  go_wp2_with fail
  refine (fnum_any _ b r 4 (by decide) HLN.out.1 (Res.keeps _ hC (Ext.drew0 w1) (fun _ _ => noB _))).mono ?_
  rintro e w2 ⟨rfl, hU⟩
  rw [HQ.out.1] at hU ⊢
  dsimp only at hU ⊢
  rw [if_pos HE1.out]
  have hU2 := hU.pre (Ext.drew0 w1)
  have hE1 := hU2.keepsTo
  clear hU
  refine hK _ _ ⟨ClsK.of (by assumption), ?_⟩; clear hK K; try simp only [nP]
  refine plan_nil ?_; simp only [tailL, List.filterMap_cons, List.filterMap_nil, nL]; change wpList _ _ _ (_ :: _ :: _ :: _ :: _ :: _ :: _ :: []) _ _
  clear fM
  replace HM := Lib.hid (hS _ _ hU2)
  clear hU2 hE1 hE0 hS hC hn1 hn2
  have fM := HM.out.fa
  go_wp2_with fail
  all_goals clear fM
  obtain ⟨C2, hC2, hS2⟩ := (HM.out.pick (r := readerR b r1) pk).step
  refine (fnum_any _ b r1 15 (by decide) HLN.out.2.1 hC2).mono ?_
  rintro e w3 ⟨rfl, hU⟩
  rw [HQ.out.2.1] at hU ⊢
  dsimp only at hU ⊢
  replace HM := Lib.hid (hS2 _ _ hU)
  clear hU hC2 hS2
  clear C2
  rw [if_pos HE2.out]
  have fM := HM.out.fa
  go_wp2_with fail
  all_goals clear fM
  refine nxt HM fun w4 M => ?_
  clear HM; have HM := M; clear M
  obtain ⟨C, hC, hn1, hn2, hS⟩ := HM.out.apart2 (r := readerR b r2) (b1 := kb) (b2 := sb) (by with_reducible repeat first | exact ph | apply pt) (by with_reducible repeat first | exact ph | apply pt) (by with_reducible repeat first | exact ph | apply pt)
  have fM := HM.out.fa
  have hE0 : Keeps (C) w4 w4.drew := (Keeps.refl _ _).drew
  refine wp_region_plan [(0, 0), (0, 1), (3, 2), (1, 4), (2, 3)] [4] [3, 5, 6, 7, 8, 9, 10, 11] [5, 6, 7, 8, 9, 10, 11] (ClsK (C) w4) (by kernel_rfl) (by kernel_rfl) (by kernel_rfl) rfl rfl (ClsK.of hE0) (fun _ _ _ d _ h => by cases d <;> exact h) ?_; simp only [planL, nL]
  iterate 2 (refine pM _ rfl rfl ?_; simp only [nP, nE])
  refine pX rfl (by go_simp <;> with_reducible rfl) ?_; simp only [nP]
  refine pK rfl (fun W => by go_simp <;> with_reducible rfl) ?_; simp only [nP]
  refine plan_does rfl (fun K hK => ?_)
  go_wp2_with fail
  refine (fnum_any _ b r2 2147483647 (by decide) HLN.out.2.2.1 (Res.keeps _ hC (Ext.drew0 w4) (fun _ _ => noB _))).mono ?_
  rintro e w5 ⟨rfl, hU⟩
  rw [HQ.out.2.2.1] at hU ⊢
  dsimp only at hU ⊢
  rw [if_neg HE.out]
  unfold saidE
  refine ⟨rfl, ?_⟩
  replace HM := Lib.hid (hS _ _ (hU.pre (Ext.drew0 w4)))
  clear hK K hE0 hU hS hC hn1 hn2 fM
  unfold TakeP
  rw [HP.out]
  dsimp only
  rw [if_neg HE.out]
  exact ⟨rfl, { s with e := ⟨4, x2, s.e.number, s.e.text⟩ }, fun h => absurd h HE.out, (Mem.list' (L1 := [readerR b r4, cellsR sb 37 ({ s with e := ⟨4, x2, s.e.number, s.e.text⟩ } : Sd).cells]) (L := []) (Mem.sub HM.out (by repeat first | exact Sub.nil | refine Sub.cons (by with_reducible repeat first | exact ph | apply pt) ?_))).upd⟩
 have HE3 := Lib.hid e3
 clear e3 s34
 by_cases e4 : r4.e = 0
 case neg =>
  have HP := Lib.hid HP4.out
  have HE := Lib.hid e4
  clear e4 HP4
  have fM := HM.out.fa
  have hE0 : Keeps (C) w1 w1.drew := (Keeps.refl _ _).drew
  refine wp_region_plan [(0, 0), (0, 1), (3, 2), (1, 4), (2, 3)] [4] [3, 5, 6, 7, 8, 9, 10, 11] [5, 6, 7, 8, 9, 10, 11] (ClsK (C) w1) (by kernel_rfl) (by kernel_rfl) (by kernel_rfl) rfl rfl (ClsK.of hE0) (fun _ _ _ d _ h => by cases d <;> exact h) ?_; simp only [planL, nL]
  iterate 2 (refine pM _ rfl rfl ?_; simp only [nP, nE])
  refine pX rfl (by go_simp <;> with_reducible rfl) ?_; simp only [nP]
  refine pK rfl (fun W => by go_simp <;> with_reducible rfl) ?_; simp only [nP]
  refine plan_does rfl (fun K hK => ?_)
  go_wp2_with fail
  refine (fnum_any _ b r 4 (by decide) HLN.out.1 (Res.keeps _ hC (Ext.drew0 w1) (fun _ _ => noB _))).mono ?_
  rintro e w2 ⟨rfl, hU⟩
  rw [HQ.out.1] at hU ⊢
  dsimp only at hU ⊢
  rw [if_pos HE1.out]
  have hU2 := hU.pre (Ext.drew0 w1)
  have hE1 := hU2.keepsTo
  clear hU
  refine hK _ _ ⟨ClsK.of (by assumption), ?_⟩; clear hK K; try simp only [nP]
  refine plan_nil ?_; simp only [tailL, List.filterMap_cons, List.filterMap_nil, nL]; change wpList _ _ _ (_ :: _ :: _ :: _ :: _ :: _ :: _ :: []) _ _
  clear fM
  replace HM := Lib.hid (hS _ _ hU2)
  clear hU2 hE1 hE0 hS hC hn1 hn2
  have fM := HM.out.fa
  go_wp2_with fail
  all_goals clear fM
  obtain ⟨C2, hC2, hS2⟩ := (HM.out.pick (r := readerR b r1) pk).step
  refine (fnum_any _ b r1 15 (by decide) HLN.out.2.1 hC2).mono ?_
  rintro e w3 ⟨rfl, hU⟩
  rw [HQ.out.2.1] at hU ⊢
  dsimp only at hU ⊢
  replace HM := Lib.hid (hS2 _ _ hU)
  clear hU hC2 hS2
  clear C2
  rw [if_pos HE2.out]
  have fM := HM.out.fa
  go_wp2_with fail
  all_goals clear fM
  refine nxt HM fun w4 M => ?_
  clear HM; have HM := M; clear M
  obtain ⟨C, hC, hn1, hn2, hS⟩ := HM.out.apart2 (r := readerR b r2) (b1 := kb) (b2 := sb) (by with_reducible repeat first | exact ph | apply pt) (by with_reducible repeat first | exact ph | apply pt) (by with_reducible repeat first | exact ph | apply pt)
  have fM := HM.out.fa
  have hE0 : Keeps (C) w4 w4.drew := (Keeps.refl _ _).drew
  refine wp_region_plan [(0, 0), (0, 1), (3, 2), (1, 4), (2, 3)] [4] [3, 5, 6, 7, 8, 9, 10, 11] [5, 6, 7, 8, 9, 10, 11] (ClsK (C) w4) (by kernel_rfl) (by kernel_rfl) (by kernel_rfl) rfl rfl (ClsK.of hE0) (fun _ _ _ d _ h => by cases d <;> exact h) ?_; simp only [planL, nL]
  iterate 2 (refine pM _ rfl rfl ?_; simp only [nP, nE])
  refine pX rfl (by go_simp <;> with_reducible rfl) ?_; simp only [nP]
  refine pK rfl (fun W => by go_simp <;> with_reducible rfl) ?_; simp only [nP]
  refine plan_does rfl (fun K hK => ?_)
  go_wp2_with fail
  refine (fnum_any _ b r2 2147483647 (by decide) HLN.out.2.2.1 (Res.keeps _ hC (Ext.drew0 w4) (fun _ _ => noB _))).mono ?_
  rintro e w5 ⟨rfl, hU⟩
  rw [HQ.out.2.2.1] at hU ⊢
  dsimp only at hU ⊢
  rw [if_pos HE3.out]
  have hU2 := hU.pre (Ext.drew0 w4)
  have hE1 := hU2.keepsTo
  clear hU
  refine hK _ _ ⟨ClsK.of (by assumption), ?_⟩; clear hK K; try simp only [nP]
  refine plan_nil ?_; simp only [tailL, List.filterMap_cons, List.filterMap_nil, nL]; change wpList _ _ _ (_ :: _ :: _ :: _ :: _ :: _ :: _ :: []) _ _
  clear fM
  replace HM := Lib.hid (hS _ _ hU2)
  clear hU2 hE1 hE0 hS hC hn1 hn2
  have fM := HM.out.fa
  go_wp2_with fail
  all_goals clear fM
  obtain ⟨C2, hC2, hS2⟩ := (HM.out.pick (r := readerR b r3) pk).step
  refine (ftxt_any _ b r3 200 (by decide) HLN.out.2.2.2 hC2).mono ?_
  rintro e w6 ⟨rfl, hU⟩
  rw [HQ.out.2.2.2] at hU ⊢
  dsimp only at hU ⊢
  replace HM := Lib.hid (hS2 _ _ hU)
  clear hU hC2 hS2
  clear C2
  rw [if_neg HE.out]
  unfold saidE
  go_wp2_with fail
  refine ⟨rfl, ?_⟩
  unfold TakeP
  rw [HP.out]
  dsimp only
  rw [if_neg HE.out]
  exact ⟨rfl, { s with e := ⟨4, x2, s.e.number, s.e.text⟩ }, fun h => absurd h HE.out, (Mem.list' (L1 := [readerR b r4, cellsR sb 37 ({ s with e := ⟨4, x2, s.e.number, s.e.text⟩ } : Sd).cells]) (L := []) (Mem.sub HM.out (by repeat first | exact Sub.nil | refine Sub.cons (by with_reducible repeat first | exact ph | apply pt) ?_))).upd⟩
 have HE := Lib.hid e4
 clear e4
 have fM := HM.out.fa
 have hE0 : Keeps (C) w1 w1.drew := (Keeps.refl _ _).drew
 refine wp_region_plan [(0, 0), (0, 1), (3, 2), (1, 4), (2, 3)] [4] [3, 5, 6, 7, 8, 9, 10, 11] [5, 6, 7, 8, 9, 10, 11] (ClsK (C) w1) (by kernel_rfl) (by kernel_rfl) (by kernel_rfl) rfl rfl (ClsK.of hE0) (fun _ _ _ d _ h => by cases d <;> exact h) ?_; simp only [planL, nL]
 iterate 2 (refine pM _ rfl rfl ?_; simp only [nP, nE])
 refine pX rfl (by go_simp <;> with_reducible rfl) ?_; simp only [nP]
 refine pK rfl (fun W => by go_simp <;> with_reducible rfl) ?_; simp only [nP]
 refine plan_does rfl (fun K hK => ?_)
 go_wp2_with fail
 refine (fnum_any _ b r 4 (by decide) HLN.out.1 (Res.keeps _ hC (Ext.drew0 w1) (fun _ _ => noB _))).mono ?_
 rintro e w2 ⟨rfl, hU⟩
 rw [HQ.out.1] at hU ⊢
 dsimp only at hU ⊢
 rw [if_pos HE1.out]
 have hU2 := hU.pre (Ext.drew0 w1)
 have hE1 := hU2.keepsTo
 clear hU
 refine hK _ _ ⟨ClsK.of (by assumption), ?_⟩; clear hK K; try simp only [nP]
 refine plan_nil ?_; simp only [tailL, List.filterMap_cons, List.filterMap_nil, nL]; change wpList _ _ _ (_ :: _ :: _ :: _ :: _ :: _ :: _ :: []) _ _
 clear fM
 replace HM := Lib.hid (hS _ _ hU2)
 clear hU2 hE1 hE0 hS hC hn1 hn2
 have fM := HM.out.fa
 go_wp2_with fail
 all_goals clear fM
 obtain ⟨C2, hC2, hS2⟩ := (HM.out.pick (r := readerR b r1) pk).step
 refine (fnum_any _ b r1 15 (by decide) HLN.out.2.1 hC2).mono ?_
 rintro e w3 ⟨rfl, hU⟩
 rw [HQ.out.2.1] at hU ⊢
 dsimp only at hU ⊢
 replace HM := Lib.hid (hS2 _ _ hU)
 clear hU hC2 hS2
 clear C2
 rw [if_pos HE2.out]
 have fM := HM.out.fa
 go_wp2_with fail
 all_goals clear fM
 refine nxt HM fun w4 M => ?_
 clear HM; have HM := M; clear M
 obtain ⟨C, hC, hn1, hn2, hS⟩ := HM.out.apart2 (r := readerR b r2) (b1 := kb) (b2 := sb) (by with_reducible repeat first | exact ph | apply pt) (by with_reducible repeat first | exact ph | apply pt) (by with_reducible repeat first | exact ph | apply pt)
 have fM := HM.out.fa
 have hE0 : Keeps (C) w4 w4.drew := (Keeps.refl _ _).drew
 refine wp_region_plan [(0, 0), (0, 1), (3, 2), (1, 4), (2, 3)] [4] [3, 5, 6, 7, 8, 9, 10, 11] [5, 6, 7, 8, 9, 10, 11] (ClsK (C) w4) (by kernel_rfl) (by kernel_rfl) (by kernel_rfl) rfl rfl (ClsK.of hE0) (fun _ _ _ d _ h => by cases d <;> exact h) ?_; simp only [planL, nL]
 iterate 2 (refine pM _ rfl rfl ?_; simp only [nP, nE])
 refine pX rfl (by go_simp <;> with_reducible rfl) ?_; simp only [nP]
 refine pK rfl (fun W => by go_simp <;> with_reducible rfl) ?_; simp only [nP]
 refine plan_does rfl (fun K hK => ?_)
 go_wp2_with fail
 refine (fnum_any _ b r2 2147483647 (by decide) HLN.out.2.2.1 (Res.keeps _ hC (Ext.drew0 w4) (fun _ _ => noB _))).mono ?_
 rintro e w5 ⟨rfl, hU⟩
 rw [HQ.out.2.2.1] at hU ⊢
 dsimp only at hU ⊢
 rw [if_pos HE3.out]
 have hU2 := hU.pre (Ext.drew0 w4)
 have hE1 := hU2.keepsTo
 clear hU
 refine hK _ _ ⟨ClsK.of (by assumption), ?_⟩; clear hK K; try simp only [nP]
 refine plan_nil ?_; simp only [tailL, List.filterMap_cons, List.filterMap_nil, nL]; change wpList _ _ _ (_ :: _ :: _ :: _ :: _ :: _ :: _ :: []) _ _
 clear fM
 replace HM := Lib.hid (hS _ _ hU2)
 clear hU2 hE1 hE0 hS hC hn1 hn2
 have fM := HM.out.fa
 go_wp2_with fail
 all_goals clear fM
 obtain ⟨C2, hC2, hS2⟩ := (HM.out.pick (r := readerR b r3) pk).step
 refine (ftxt_any _ b r3 200 (by decide) HLN.out.2.2.2 hC2).mono ?_
 rintro e w6 ⟨rfl, hU⟩
 rw [HQ.out.2.2.2] at hU ⊢
 dsimp only at hU ⊢
 replace HM := Lib.hid (hS2 _ _ hU)
 clear hU hC2 hS2
 clear C2
 rw [if_pos HE.out]
 have fM := HM.out.fa
 go_wp2_with fail
 all_goals clear fM
 go_end0
 unfold TakeP
 rw [HP4.out]
 dsimp only
 rw [if_pos HE.out]
 refine ⟨rfl, { s with e := ⟨4, x2, x3, x4⟩ }, fun _ => rfl, ?_⟩
 refine nxt HM fun w9 M => ?_
 clear HM; have HM := M; clear M
 exact (Mem.list' (L1 := [readerR b r4, cellsR sb 37 ({ s with e := ⟨4, x2, x3, x4⟩ } : Sd).cells]) (L := []) (Mem.sub HM.out (by repeat first | exact Sub.nil | refine Sub.cons (by with_reducible repeat first | exact ph | apply pt) ?_))).upd
theorem ptake_any {A : Nat → Prop} (w : World) (b sb : Nat) (p : Part) (r : Rdr) (s : Sd) (hl : r.b.length ≤ 70368744177664) (h : SepL [readerR b r, cellsR sb 37 s.cells] A w) :
 Calls Tryz.prog (takeF p) #[rdV b, .pointer (some ⟨sb, 0, none⟩)] w (TakeP A w b sb p r s) := by
 cases p
 · exact take_member w b sb 0 r s hl h
 · exact take_number w b sb _ r s hl h
 · exact take_index w b sb 0 r s hl h
 · exact take_is w b sb r s hl h
 · exact take_said w b sb 0 r s hl h
 · exact take_token w b sb 0 r s hl h
 · exact take_entry w b sb r s hl h
end
section
theorem str_eq (l m : List UInt8) : ((bs l).toList == (bs m).toList) = decide (l = m) := by
 rw [bs_toList, bs_toList, Bool.eq_iff_iff]; simp
theorem int_eq (a b : Int) : (a == b) = decide (a = b) := by rw [Bool.eq_iff_iff]; simp
theorem boo_eq (a b : Bool) : (a == b) = decide (a = b) := by rw [Bool.eq_iff_iff]; simp
theorem eqIn_en (x y : En) (d : Nat) (W : World) : (Op.equalIn (d + 2) 35 x.v y.v).run Tryz.prog W = .ok (decide (x = y)) W := by
 unfold En.v
 rw [run_equalIn_struct W (d + 1) 35 _ _ (by kernel_rfl) (by kernel_rfl)]
 obtain ⟨f, hf⟩ : ∃ f : En → Array Value, f = fun z => #[Value.int .i64 z.kind, .int .i64 z.member, .int .i64 z.number, .string (bs z.text)] := ⟨_, rfl⟩
 have hx : ∀ z : En, #[Value.int .i64 z.kind, .int .i64 z.member, .int .i64 z.number, .string (bs z.text)] = f z := fun z => by rw [hf]
 have p0 : ∀ z : En, (part 33 (f z) 0).run Tryz.prog W = .ok (.int .i64 z.kind) W := fun z => by rw [hf]; exact run_part_plain W (by kernel_rfl) rfl
 have p1 : ∀ z : En, (part 3 (f z) 1).run Tryz.prog W = .ok (.int .i64 z.member) W := fun z => by rw [hf]; exact run_part_plain W (by kernel_rfl) rfl
 have p2 : ∀ z : En, (part 2 (f z) 2).run Tryz.prog W = .ok (.int .i64 z.number) W := fun z => by rw [hf]; exact run_part_plain W (by kernel_rfl) rfl
 have p3 : ∀ z : En, (part 9 (f z) 3).run Tryz.prog W = .ok (.string (bs z.text)) W := fun z => by rw [hf]; exact run_part_plain W (by kernel_rfl) rfl
 rw [hx x, hx y]
 clear hf hx
 have q0 := run_equalIn_int W d 33 .i64 .i64 x.kind y.kind Tryz.underlying33
 have q1 := run_equalIn_int W d 3 .i64 .i64 x.member y.member Tryz.underlying3
 have q2 := run_equalIn_int W d 2 .i64 .i64 x.number y.number Tryz.underlying2
 have q3 := run_equalIn_string W d 9 (bs x.text) (bs y.text) Tryz.underlying9
 rw [str_eq] at q3
 rw [int_eq] at q0 q1 q2
 have he : decide (x = y) = (decide (x.kind = y.kind) && (decide (x.member = y.member) && (decide (x.number = y.number) && decide (x.text = y.text)))) := by
  obtain ⟨a, b, c, e⟩ := x
  obtain ⟨a', b', c', e'⟩ := y
  rw [Bool.eq_iff_iff]; simp
 rw [he]
 simp only [Program.fieldsOf, Tryz.underlying35, Op.eqFields]
 obtain ⟨g0, hg0⟩ : ∃ g : En → Value, g = fun z => Value.int .i64 z.kind := ⟨_, rfl⟩
 have u0 : ∀ z : En, Value.int .i64 z.kind = g0 z := fun z => by rw [hg0]
 simp only [u0] at p0
 rw [u0 x, u0 y] at q0
 clear u0 hg0
 obtain ⟨g1, hg1⟩ : ∃ g : En → Value, g = fun z => Value.int .i64 z.member := ⟨_, rfl⟩
 have u1 : ∀ z : En, Value.int .i64 z.member = g1 z := fun z => by rw [hg1]
 simp only [u1] at p1
 rw [u1 x, u1 y] at q1
 clear u1 hg1
 obtain ⟨g2, hg2⟩ : ∃ g : En → Value, g = fun z => Value.int .i64 z.number := ⟨_, rfl⟩
 have u2 : ∀ z : En, Value.int .i64 z.number = g2 z := fun z => by rw [hg2]
 simp only [u2] at p2
 rw [u2 x, u2 y] at q2
 clear u2 hg2
 obtain ⟨g3, hg3⟩ : ∃ g : En → Value, g = fun z => Value.string (bs z.text) := ⟨_, rfl⟩
 have u3 : ∀ z : En, Value.string (bs z.text) = g3 z := fun z => by rw [hg3]
 simp only [u3] at p3
 rw [u3 x, u3 y] at q3
 clear u3 hg3
 obtain ⟨b0, hb0⟩ : ∃ b, decide (x.kind = y.kind) = b := ⟨_, rfl⟩
 rw [hb0] at q0 ⊢
 clear hb0
 obtain ⟨b1, hb1⟩ : ∃ b, decide (x.member = y.member) = b := ⟨_, rfl⟩
 rw [hb1] at q1 ⊢
 clear hb1
 obtain ⟨b2, hb2⟩ : ∃ b, decide (x.number = y.number) = b := ⟨_, rfl⟩
 rw [hb2] at q2 ⊢
 clear hb2
 obtain ⟨b3, hb3⟩ : ∃ b, decide (x.text = y.text) = b := ⟨_, rfl⟩
 rw [hb3] at q3 ⊢
 clear hb3
 cases b0
 case false => simp [p0, q0, Result.andThen]
 cases b1
 case false => simp [p0, q0, p1, q1, Result.andThen]
 cases b2
 case false => simp [p0, q0, p1, q1, p2, q2, Result.andThen]
 cases b3
 case false => simp [p0, q0, p1, q1, p2, q2, p3, q3, Result.andThen]
 simp [p0, q0, p1, q1, p2, q2, p3, q3, Result.andThen]
theorem eqIn_sd (x y : Sd) (d : Nat) (W : World) : (Op.equalIn (d + 3) 37 x.v y.v).run Tryz.prog W = .ok (decide (x = y)) W := by
 unfold Sd.v Sd.cells
 rw [run_equalIn_struct W (d + 2) 37 _ _ (by kernel_rfl) (by kernel_rfl)]
 obtain ⟨f, hf⟩ : ∃ f : Sd → Array Value, f = fun z => [Value.int .i64 z.kind, .int .i64 z.member, .int .i64 z.number, .int .i64 z.index, .bool z.is, .string (bs z.text), .string (bs z.token), .int .i64 z.e.kind, .int .i64 z.e.member, .int .i64 z.e.number, .string (bs z.e.text)].toArray := ⟨_, rfl⟩
 have hx : ∀ z, [Value.int .i64 z.kind, .int .i64 z.member, .int .i64 z.number, .int .i64 z.index, .bool z.is, .string (bs z.text), .string (bs z.token), .int .i64 z.e.kind, .int .i64 z.e.member, .int .i64 z.e.number, .string (bs z.e.text)].toArray = f z := fun z => by rw [hf]
 have p0 : ∀ z, (part 32 (f z) 0).run Tryz.prog W = .ok (.int .i64 z.kind) W := fun z => by rw [hf]; exact run_part_plain W (by kernel_rfl) rfl
 have p1 : ∀ z, (part 3 (f z) 1).run Tryz.prog W = .ok (.int .i64 z.member) W := fun z => by rw [hf]; exact run_part_plain W (by kernel_rfl) rfl
 have p2 : ∀ z, (part 2 (f z) 2).run Tryz.prog W = .ok (.int .i64 z.number) W := fun z => by rw [hf]; exact run_part_plain W (by kernel_rfl) rfl
 have p3 : ∀ z, (part 2 (f z) 3).run Tryz.prog W = .ok (.int .i64 z.index) W := fun z => by rw [hf]; exact run_part_plain W (by kernel_rfl) rfl
 have p4 : ∀ z, (part 4 (f z) 4).run Tryz.prog W = .ok (.bool z.is) W := fun z => by rw [hf]; exact run_part_plain W (by kernel_rfl) rfl
 have p5 : ∀ z, (part 9 (f z) 5).run Tryz.prog W = .ok (.string (bs z.text)) W := fun z => by rw [hf]; exact run_part_plain W (by kernel_rfl) rfl
 have p6 : ∀ z, (part 9 (f z) 6).run Tryz.prog W = .ok (.string (bs z.token)) W := fun z => by rw [hf]; exact run_part_plain W (by kernel_rfl) rfl
 have p7 : ∀ z, (part 35 (f z) 7).run Tryz.prog W = .ok z.e.v W := fun z => by rw [hf]; exact part_agg (n := 4) Tryz.underlying35 rfl (by kernel_rfl) W
 rw [hx x, hx y]
 clear hf hx
 have q0 := run_equalIn_int W (d + 1) 32 .i64 .i64 x.kind y.kind Tryz.underlying32
 have q1 := run_equalIn_int W (d + 1) 3 .i64 .i64 x.member y.member Tryz.underlying3
 have q2 := run_equalIn_int W (d + 1) 2 .i64 .i64 x.number y.number Tryz.underlying2
 have q3 := run_equalIn_int W (d + 1) 2 .i64 .i64 x.index y.index Tryz.underlying2
 have q4 := run_equalIn_bool W (d + 1) 4 x.is y.is Tryz.underlying4
 have q5 := run_equalIn_string W (d + 1) 9 (bs x.text) (bs y.text) Tryz.underlying9
 have q6 := run_equalIn_string W (d + 1) 9 (bs x.token) (bs y.token) Tryz.underlying9
 have q7 := eqIn_en x.e y.e d W
 rw [str_eq] at q5 q6
 rw [int_eq] at q0 q1 q2 q3
 rw [boo_eq] at q4
 have he : decide (x = y) = (decide (x.kind = y.kind) && (decide (x.member = y.member) && (decide (x.number = y.number) && (decide (x.index = y.index) && (decide (x.is = y.is) && (decide (x.text = y.text) && (decide (x.token = y.token) && decide (x.e = y.e)))))))) := by
  obtain ⟨a, b, c, e, a1, a2, a3, a4⟩ := x
  obtain ⟨a', b', c', e', a1', a2', a3', a4'⟩ := y
  rw [Bool.eq_iff_iff]; simp
 rw [he]
 simp only [Program.fieldsOf, Tryz.underlying37, Op.eqFields]
 obtain ⟨g0, hg0⟩ : ∃ g : Sd → Value, g = fun z => Value.int .i64 z.kind := ⟨_, rfl⟩
 have u0 : ∀ z : Sd, Value.int .i64 z.kind = g0 z := fun z => by rw [hg0]
 simp only [u0] at p0
 rw [u0 x, u0 y] at q0
 clear u0 hg0
 obtain ⟨g1, hg1⟩ : ∃ g : Sd → Value, g = fun z => Value.int .i64 z.member := ⟨_, rfl⟩
 have u1 : ∀ z : Sd, Value.int .i64 z.member = g1 z := fun z => by rw [hg1]
 simp only [u1] at p1
 rw [u1 x, u1 y] at q1
 clear u1 hg1
 obtain ⟨g2, hg2⟩ : ∃ g : Sd → Value, g = fun z => Value.int .i64 z.number := ⟨_, rfl⟩
 have u2 : ∀ z : Sd, Value.int .i64 z.number = g2 z := fun z => by rw [hg2]
 simp only [u2] at p2
 rw [u2 x, u2 y] at q2
 clear u2 hg2
 obtain ⟨g3, hg3⟩ : ∃ g : Sd → Value, g = fun z => Value.int .i64 z.index := ⟨_, rfl⟩
 have u3 : ∀ z : Sd, Value.int .i64 z.index = g3 z := fun z => by rw [hg3]
 simp only [u3] at p3
 rw [u3 x, u3 y] at q3
 clear u3 hg3
 obtain ⟨g4, hg4⟩ : ∃ g : Sd → Value, g = fun z => Value.bool z.is := ⟨_, rfl⟩
 have u4 : ∀ z : Sd, Value.bool z.is = g4 z := fun z => by rw [hg4]
 simp only [u4] at p4
 rw [u4 x, u4 y] at q4
 clear u4 hg4
 obtain ⟨g5, hg5⟩ : ∃ g : Sd → Value, g = fun z => Value.string (bs z.text) := ⟨_, rfl⟩
 have u5 : ∀ z : Sd, Value.string (bs z.text) = g5 z := fun z => by rw [hg5]
 simp only [u5] at p5
 rw [u5 x, u5 y] at q5
 clear u5 hg5
 obtain ⟨g6, hg6⟩ : ∃ g : Sd → Value, g = fun z => Value.string (bs z.token) := ⟨_, rfl⟩
 have u6 : ∀ z : Sd, Value.string (bs z.token) = g6 z := fun z => by rw [hg6]
 simp only [u6] at p6
 rw [u6 x, u6 y] at q6
 clear u6 hg6
 obtain ⟨g7, hg7⟩ : ∃ g : Sd → Value, g = fun z => z.e.v := ⟨_, rfl⟩
 have u7 : ∀ z : Sd, z.e.v = g7 z := fun z => by rw [hg7]
 simp only [u7] at p7
 rw [u7 x, u7 y] at q7
 clear u7 hg7
 obtain ⟨b0, hb0⟩ : ∃ b, decide (x.kind = y.kind) = b := ⟨_, rfl⟩
 rw [hb0] at q0 ⊢
 clear hb0
 obtain ⟨b1, hb1⟩ : ∃ b, decide (x.member = y.member) = b := ⟨_, rfl⟩
 rw [hb1] at q1 ⊢
 clear hb1
 obtain ⟨b2, hb2⟩ : ∃ b, decide (x.number = y.number) = b := ⟨_, rfl⟩
 rw [hb2] at q2 ⊢
 clear hb2
 obtain ⟨b3, hb3⟩ : ∃ b, decide (x.index = y.index) = b := ⟨_, rfl⟩
 rw [hb3] at q3 ⊢
 clear hb3
 obtain ⟨b4, hb4⟩ : ∃ b, decide (x.is = y.is) = b := ⟨_, rfl⟩
 rw [hb4] at q4 ⊢
 clear hb4
 obtain ⟨b5, hb5⟩ : ∃ b, decide (x.text = y.text) = b := ⟨_, rfl⟩
 rw [hb5] at q5 ⊢
 clear hb5
 obtain ⟨b6, hb6⟩ : ∃ b, decide (x.token = y.token) = b := ⟨_, rfl⟩
 rw [hb6] at q6 ⊢
 clear hb6
 obtain ⟨b7, hb7⟩ : ∃ b, decide (x.e = y.e) = b := ⟨_, rfl⟩
 rw [hb7] at q7 ⊢
 clear hb7
 cases b0
 case false => simp [p0, q0, Result.andThen]
 cases b1
 case false => simp [p0, q0, p1, q1, Result.andThen]
 cases b2
 case false => simp [p0, q0, p1, q1, p2, q2, Result.andThen]
 cases b3
 case false => simp [p0, q0, p1, q1, p2, q2, p3, q3, Result.andThen]
 cases b4
 case false => simp [p0, q0, p1, q1, p2, q2, p3, q3, p4, q4, Result.andThen]
 cases b5
 case false => simp [p0, q0, p1, q1, p2, q2, p3, q3, p4, q4, p5, q5, Result.andThen]
 cases b6
 case false => simp [p0, q0, p1, q1, p2, q2, p3, q3, p4, q4, p5, q5, p6, q6, Result.andThen]
 cases b7
 case false => simp [p0, q0, p1, q1, p2, q2, p3, q3, p4, q4, p5, q5, p6, q6, p7, q7, Result.andThen]
 simp [p0, q0, p1, q1, p2, q2, p3, q3, p4, q4, p5, q5, p6, q6, p7, q7, Result.andThen]
theorem eq_sd (x y : Sd) (W : World) : (binOp .eql 37 x.v y.v).run Tryz.prog W = .ok (.bool (decide (x = y))) W := eql_of (eqIn_sd x y 9997 W)
theorem ne_sd (x y : Sd) (W : World) : (binOp .neq 37 x.v y.v).run Tryz.prog W = .ok (.bool (!decide (x = y))) W := neq_of (eqIn_sd x y 9997 W)
end
end Go.Proofs.YtoadjbgpfihoiaaGreatDoor
