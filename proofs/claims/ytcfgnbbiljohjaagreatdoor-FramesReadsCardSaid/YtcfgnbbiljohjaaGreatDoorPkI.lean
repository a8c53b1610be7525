/- Texts PartE, PartF, SaidEq, Check, Raw, one behind the other. Conditions: as each says. -/
import Derived.Test.YtcfgnbbiljohjaaGreatDoorPkH
import Derived.Test.YtcfgnbbiljohjaaGreatDoorCards
section
/- The parts of what is said: taken off a reader. Conditions: it lies as 'readerR' says, what is said in a block known whole. -/
set_option linter.unusedVariables false
set_option linter.unusedSimpArgs false
set_option maxHeartbeats 2000000
set_option maxRecDepth 10000
namespace Go.Proofs.YtcfgnbbiljohjaaGreatDoor
open Go.RowKit
def saidE : Ending := .panicked [{ v := .iface 31 (.int .i64 340), recovered := false }]
theorem fmust_any (w : World) (x : Bool) : Calls Tryz.prog 39 #[.bool x] w fun e w' => e = (if x then .returned (.tuple #[]) else saidE) ∧ w' = w := by
  cases x
  · go_enter Tryz.func39, Tryz.ntmps39
    go_wp2_with fail
    exact ⟨rfl, rfl, rfl⟩
  · go_enter Tryz.func39, Tryz.ntmps39
    go_wp2_with fail
    go_end0
    exact ⟨rfl, rfl⟩
abbrev rdV (b : Nat) : Value := .agg #[.pointer (some ⟨b, 0, none⟩)]
theorem fnum_any {A : Nat → Prop} (w : World) (b : Nat) (r : Rdr) (g : Int) (hg : 0 ≤ g) (hl : r.b.length ≤ 70368744177664) (h : (readerR b r).p A w) :
    Calls Tryz.prog 38 #[rdV b, .int .i64 g] w fun e w' => e = (if (r.num g).1.e = 0 then .returned (.int .i64 ((r.num g).2.1 : Int)) else saidE) ∧ Upd A w w' (readerR b (r.num g).1) := by
  have hno := r.num_e' g hg
  obtain ⟨⟨r1, n, no⟩, hq⟩ : ∃ q, r.num g = q := ⟨_, rfl⟩
  have HQ := Lib.hid hq
  rw [hq] at hno ⊢
  dsimp only at hno ⊢
  clear hq
  have HM := Lib.hid (Mem.start h)
  have HLL := Lib.hid hl
  clear h hl
  go_enter Tryz.func38, Tryz.ntmps38
  have fM := HM.out.fa
  go_wp2_with fail
  all_goals clear fM
  refine nxt HM fun w1 M => ?_
  clear HM; have HM := M; clear M
  obtain ⟨C, hC, hS⟩ := (HM.out.pick (r := readerR b r) (by with_reducible repeat first | exact ph | apply pt)).step
  refine (rnumber_any w1 b g r HLL.out hC).mono ?_
  rintro e w2 ⟨rfl, hU⟩
  replace HM := Lib.hid (hS _ _ hU)
  rw [HQ.out] at HM ⊢
  dsimp only at HM ⊢
  clear hU hS hC C
  by_cases he : no = 0
  · have he2 : r1.e = 0 := by rw [← hno]; exact he
    have HE2 := Lib.hid he2
    subst he
    clear hno he2
    have fM := HM.out.fa
    go_wp2_with fail
    all_goals clear fM
    refine (fmust_any _ _).mono ?_
    rintro e w' ⟨rfl, hwq⟩
    rw [hwq]
    clear hwq w'
    simp only [if_true]
    go_wp2_with fail
    go_ret
    try rw [if_pos HE2.out]
    exact ⟨rfl, (HM.out.pick (r := readerR b r1) (by with_reducible repeat first | exact ph | apply pt)).upd⟩
  · have he2 : ¬ r1.e = 0 := by rw [← hno]; exact he
    have HE2 := Lib.hid he2
    have he3 : (no == 0) = false := by simpa using he
    clear hno he2 he
    have fM := HM.out.fa
    go_wp2_with fail
    all_goals clear fM
    refine (fmust_any _ _).mono ?_
    rintro e w' ⟨rfl, hwq⟩
    rw [hwq]
    clear hwq w'
    simp only [Bool.false_eq_true, if_false, saidE]
    go_wp2_with fail
    try rw [if_neg HE2.out]
    exact ⟨rfl, rfl, (HM.out.pick (r := readerR b r1) (by with_reducible repeat first | exact ph | apply pt)).upd⟩
theorem ftxt_any {A : Nat → Prop} (w : World) (b : Nat) (r : Rdr) (g : Int) (hg : 0 ≤ g) (hl : r.b.length ≤ 70368744177664) (h : (readerR b r).p A w) :
    Calls Tryz.prog 95 #[rdV b, .int .i64 g] w fun e w' => e = (if (r.txt g).1.e = 0 then .returned (.string (bs (r.txt g).2.1)) else saidE) ∧ Upd A w w' (readerR b (r.txt g).1) := by
  have hno := r.txt_e' g hg
  obtain ⟨⟨r1, n, no⟩, hq⟩ : ∃ q, r.txt g = q := ⟨_, rfl⟩
  have HQ := Lib.hid hq
  rw [hq] at hno ⊢
  dsimp only at hno ⊢
  clear hq
  have HM := Lib.hid (Mem.start h)
  have HLL := Lib.hid hl
  clear h hl
  go_enter Tryz.func95, Tryz.ntmps95
  have fM := HM.out.fa
  go_wp2_with fail
  all_goals clear fM
  refine nxt HM fun w1 M => ?_
  clear HM; have HM := M; clear M
  obtain ⟨C, hC, hS⟩ := (HM.out.pick (r := readerR b r) (by with_reducible repeat first | exact ph | apply pt)).step
  refine (rtext_any w1 b g r HLL.out hC).mono ?_
  rintro e w2 ⟨rfl, hU⟩
  replace HM := Lib.hid (hS _ _ hU)
  rw [HQ.out] at HM ⊢
  dsimp only at HM ⊢
  clear hU hS hC C
  by_cases he : no = 0
  · have he2 : r1.e = 0 := by rw [← hno]; exact he
    have HE2 := Lib.hid he2
    subst he
    clear hno he2
    have fM := HM.out.fa
    go_wp2_with fail
    all_goals clear fM
    refine (fmust_any _ _).mono ?_
    rintro e w' ⟨rfl, hwq⟩
    rw [hwq]
    clear hwq w'
    simp only [if_true]
    go_wp2_with fail
    go_ret
    try rw [if_pos HE2.out]
    exact ⟨rfl, (HM.out.pick (r := readerR b r1) (by with_reducible repeat first | exact ph | apply pt)).upd⟩
  · have he2 : ¬ r1.e = 0 := by rw [← hno]; exact he
    have HE2 := Lib.hid he2
    have he3 : (no == 0) = false := by simpa using he
    clear hno he2 he
    have fM := HM.out.fa
    go_wp2_with fail
    all_goals clear fM
    refine (fmust_any _ _).mono ?_
    rintro e w' ⟨rfl, hwq⟩
    rw [hwq]
    clear hwq w'
    simp only [Bool.false_eq_true, if_false, saidE]
    go_wp2_with fail
    try rw [if_neg HE2.out]
    exact ⟨rfl, rfl, (HM.out.pick (r := readerR b r1) (by with_reducible repeat first | exact ph | apply pt)).upd⟩
def takeF : Part → Nat
  | .member => 89
  | .number _ => 100
  | .index => 109
  | .is => 114
  | .said => 105
  | .token => 94
  | .entry => 120
/-- what taking a part off a reader comes to -/
def TakeP (A : Nat → Prop) (w : World) (b sb : Nat) (p : Part) (r : Rdr) (s : Sd) (e : Ending) (w' : World) : Prop :=
  e = (if (p.take r s).1.e = 0 then .returned (.tuple #[]) else saidE) ∧ ∃ s' : Sd, ((p.take r s).1.e = 0 → s' = (p.take r s).2) ∧ Upd A w w' (listR [readerR b (p.take r s).1, cellsR sb 27 s'.cells])
theorem take_member {A : Nat → Prop} (w : World) (b sb : Nat) (n : Int) (r : Rdr) (s : Sd) (hl : r.b.length ≤ 70368744177664) (h : SepL [readerR b r, cellsR sb 27 s.cells] A w) :
    Calls Tryz.prog 89 #[rdV b, .pointer (some ⟨sb, 0, none⟩)] w (TakeP A w b sb .member r s) := by
  obtain ⟨⟨r1, x, no⟩, hq⟩ : ∃ q, r.num 15 = q := ⟨_, rfl⟩
  have HQ := Lib.hid hq
  have HP := Lib.hid (show Part.take .member r s = (r1, { s with member := x }) by show ((r.num 15).1, { s with member := (r.num 15).2.1 }) = _; rw [hq])
  clear hq
  have HM := Lib.hid (Mem.start (F := A) (r := listR [readerR b r, cellsR sb 27 s.cells]) h).unlist
  simp only [List.cons_append, List.nil_append] at HM
  have HLL := Lib.hid hl
  unfold Sd.cells at HM
  clear h hl
  go_enter Tryz.func89, Tryz.ntmps89
  have fM := HM.out.fa
  go_wp2_with fail
  all_goals clear fM
  refine nxt HM fun w1 M => ?_
  clear HM; have HM := M; clear M
  obtain ⟨C, hC, hS⟩ := (HM.out.pick (r := readerR b r) (by with_reducible repeat first | exact ph | apply pt)).step
  refine (fnum_any w1 b r 15 (by decide) HLL.out hC).mono ?_
  rintro e w2 ⟨rfl, hU⟩
  replace HM := Lib.hid (hS _ _ hU)
  rw [HQ.out] at HM ⊢
  dsimp only at HM ⊢
  clear hU hS hC C
  by_cases he : r1.e = 0
  · rw [if_pos he]
    have HE := Lib.hid he
    clear he
    have fM := HM.out.fa
    go_wp2_with fail
    all_goals clear fM
    go_end0
    unfold TakeP
    rw [HP.out]
    dsimp only
    rw [if_pos HE.out]
    refine ⟨rfl, { s with member := x }, fun _ => rfl, ?_⟩
    refine nxt HM fun w3 M => ?_
    clear HM; have HM := M; clear M
    exact (Mem.list' (L1 := [readerR b r1, cellsR sb 27 ({ s with member := x } : Sd).cells]) (L := []) (Mem.sub HM.out (by repeat first | exact Sub.nil | refine Sub.cons (by with_reducible repeat first | exact ph | apply pt) ?_))).upd
  · rw [if_neg he]
    have HE := Lib.hid he
    clear he
    unfold saidE
    go_wp2_with fail
    refine ⟨rfl, ?_⟩
    unfold TakeP
    rw [HP.out]
    dsimp only
    rw [if_neg HE.out]
    exact ⟨rfl, s, fun h => absurd h HE.out, (Mem.list' (L1 := [readerR b r1, cellsR sb 27 s.cells]) (L := []) (Mem.sub HM.out (by repeat first | exact Sub.nil | refine Sub.cons (by with_reducible repeat first | exact ph | apply pt) ?_))).upd⟩
theorem take_number {A : Nat → Prop} (w : World) (b sb : Nat) (n : Int) (r : Rdr) (s : Sd) (hl : r.b.length ≤ 70368744177664) (h : SepL [readerR b r, cellsR sb 27 s.cells] A w) :
    Calls Tryz.prog 100 #[rdV b, .pointer (some ⟨sb, 0, none⟩)] w (TakeP A w b sb (.number n) r s) := by
  obtain ⟨⟨r1, x, no⟩, hq⟩ : ∃ q, r.num 2147483647 = q := ⟨_, rfl⟩
  have HQ := Lib.hid hq
  have HP := Lib.hid (show Part.take (.number n) r s = (r1, { s with number := x }) by show ((r.num 2147483647).1, { s with number := (r.num 2147483647).2.1 }) = _; rw [hq])
  clear hq
  have HM := Lib.hid (Mem.start (F := A) (r := listR [readerR b r, cellsR sb 27 s.cells]) h).unlist
  simp only [List.cons_append, List.nil_append] at HM
  have HLL := Lib.hid hl
  unfold Sd.cells at HM
  clear h hl
  go_enter Tryz.func100, Tryz.ntmps100
  have fM := HM.out.fa
  go_wp2_with fail
  all_goals clear fM
  refine nxt HM fun w1 M => ?_
  clear HM; have HM := M; clear M
  obtain ⟨C, hC, hS⟩ := (HM.out.pick (r := readerR b r) (by with_reducible repeat first | exact ph | apply pt)).step
  refine (fnum_any w1 b r 2147483647 (by decide) HLL.out hC).mono ?_
  rintro e w2 ⟨rfl, hU⟩
  replace HM := Lib.hid (hS _ _ hU)
  rw [HQ.out] at HM ⊢
  dsimp only at HM ⊢
  clear hU hS hC C
  by_cases he : r1.e = 0
  · rw [if_pos he]
    have HE := Lib.hid he
    clear he
    have fM := HM.out.fa
    go_wp2_with fail
    all_goals clear fM
    go_end0
    unfold TakeP
    rw [HP.out]
    dsimp only
    rw [if_pos HE.out]
    refine ⟨rfl, { s with number := x }, fun _ => rfl, ?_⟩
    refine nxt HM fun w3 M => ?_
    clear HM; have HM := M; clear M
    exact (Mem.list' (L1 := [readerR b r1, cellsR sb 27 ({ s with number := x } : Sd).cells]) (L := []) (Mem.sub HM.out (by repeat first | exact Sub.nil | refine Sub.cons (by with_reducible repeat first | exact ph | apply pt) ?_))).upd
  · rw [if_neg he]
    have HE := Lib.hid he
    clear he
    unfold saidE
    go_wp2_with fail
    refine ⟨rfl, ?_⟩
    unfold TakeP
    rw [HP.out]
    dsimp only
    rw [if_neg HE.out]
    exact ⟨rfl, s, fun h => absurd h HE.out, (Mem.list' (L1 := [readerR b r1, cellsR sb 27 s.cells]) (L := []) (Mem.sub HM.out (by repeat first | exact Sub.nil | refine Sub.cons (by with_reducible repeat first | exact ph | apply pt) ?_))).upd⟩
theorem take_index {A : Nat → Prop} (w : World) (b sb : Nat) (n : Int) (r : Rdr) (s : Sd) (hl : r.b.length ≤ 70368744177664) (h : SepL [readerR b r, cellsR sb 27 s.cells] A w) :
    Calls Tryz.prog 109 #[rdV b, .pointer (some ⟨sb, 0, none⟩)] w (TakeP A w b sb .index r s) := by
  obtain ⟨⟨r1, x, no⟩, hq⟩ : ∃ q, r.num 2147483647 = q := ⟨_, rfl⟩
  have HQ := Lib.hid hq
  have HP := Lib.hid (show Part.take .index r s = (r1, { s with index := x }) by show ((r.num 2147483647).1, { s with index := (r.num 2147483647).2.1 }) = _; rw [hq])
  clear hq
  have HM := Lib.hid (Mem.start (F := A) (r := listR [readerR b r, cellsR sb 27 s.cells]) h).unlist
  simp only [List.cons_append, List.nil_append] at HM
  have HLL := Lib.hid hl
  unfold Sd.cells at HM
  clear h hl
  go_enter Tryz.func109, Tryz.ntmps109
  have fM := HM.out.fa
  go_wp2_with fail
  all_goals clear fM
  refine nxt HM fun w1 M => ?_
  clear HM; have HM := M; clear M
  obtain ⟨C, hC, hS⟩ := (HM.out.pick (r := readerR b r) (by with_reducible repeat first | exact ph | apply pt)).step
  refine (fnum_any w1 b r 2147483647 (by decide) HLL.out hC).mono ?_
  rintro e w2 ⟨rfl, hU⟩
  replace HM := Lib.hid (hS _ _ hU)
  rw [HQ.out] at HM ⊢
  dsimp only at HM ⊢
  clear hU hS hC C
  by_cases he : r1.e = 0
  · rw [if_pos he]
    have HE := Lib.hid he
    clear he
    have fM := HM.out.fa
    go_wp2_with fail
    all_goals clear fM
    go_end0
    unfold TakeP
    rw [HP.out]
    dsimp only
    rw [if_pos HE.out]
    refine ⟨rfl, { s with index := x }, fun _ => rfl, ?_⟩
    refine nxt HM fun w3 M => ?_
    clear HM; have HM := M; clear M
    exact (Mem.list' (L1 := [readerR b r1, cellsR sb 27 ({ s with index := x } : Sd).cells]) (L := []) (Mem.sub HM.out (by repeat first | exact Sub.nil | refine Sub.cons (by with_reducible repeat first | exact ph | apply pt) ?_))).upd
  · rw [if_neg he]
    have HE := Lib.hid he
    clear he
    unfold saidE
    go_wp2_with fail
    refine ⟨rfl, ?_⟩
    unfold TakeP
    rw [HP.out]
    dsimp only
    rw [if_neg HE.out]
    exact ⟨rfl, s, fun h => absurd h HE.out, (Mem.list' (L1 := [readerR b r1, cellsR sb 27 s.cells]) (L := []) (Mem.sub HM.out (by repeat first | exact Sub.nil | refine Sub.cons (by with_reducible repeat first | exact ph | apply pt) ?_))).upd⟩
theorem take_said {A : Nat → Prop} (w : World) (b sb : Nat) (n : Int) (r : Rdr) (s : Sd) (hl : r.b.length ≤ 70368744177664) (h : SepL [readerR b r, cellsR sb 27 s.cells] A w) :
    Calls Tryz.prog 105 #[rdV b, .pointer (some ⟨sb, 0, none⟩)] w (TakeP A w b sb .said r s) := by
  obtain ⟨⟨r1, x, no⟩, hq⟩ : ∃ q, r.txt 200 = q := ⟨_, rfl⟩
  have HQ := Lib.hid hq
  have HP := Lib.hid (show Part.take .said r s = (r1, { s with text := x }) by show ((r.txt 200).1, { s with text := (r.txt 200).2.1 }) = _; rw [hq])
  clear hq
  have HM := Lib.hid (Mem.start (F := A) (r := listR [readerR b r, cellsR sb 27 s.cells]) h).unlist
  simp only [List.cons_append, List.nil_append] at HM
  have HLL := Lib.hid hl
  unfold Sd.cells at HM
  clear h hl
  go_enter Tryz.func105, Tryz.ntmps105
  have fM := HM.out.fa
  go_wp2_with fail
  all_goals clear fM
  refine nxt HM fun w1 M => ?_
  clear HM; have HM := M; clear M
  obtain ⟨C, hC, hS⟩ := (HM.out.pick (r := readerR b r) (by with_reducible repeat first | exact ph | apply pt)).step
  refine (ftxt_any w1 b r 200 (by decide) HLL.out hC).mono ?_
  rintro e w2 ⟨rfl, hU⟩
  replace HM := Lib.hid (hS _ _ hU)
  rw [HQ.out] at HM ⊢
  dsimp only at HM ⊢
  clear hU hS hC C
  by_cases he : r1.e = 0
  · rw [if_pos he]
    have HE := Lib.hid he
    clear he
    have fM := HM.out.fa
    go_wp2_with fail
    all_goals clear fM
    go_end0
    unfold TakeP
    rw [HP.out]
    dsimp only
    rw [if_pos HE.out]
    refine ⟨rfl, { s with text := x }, fun _ => rfl, ?_⟩
    refine nxt HM fun w3 M => ?_
    clear HM; have HM := M; clear M
    exact (Mem.list' (L1 := [readerR b r1, cellsR sb 27 ({ s with text := x } : Sd).cells]) (L := []) (Mem.sub HM.out (by repeat first | exact Sub.nil | refine Sub.cons (by with_reducible repeat first | exact ph | apply pt) ?_))).upd
  · rw [if_neg he]
    have HE := Lib.hid he
    clear he
    unfold saidE
    go_wp2_with fail
    refine ⟨rfl, ?_⟩
    unfold TakeP
    rw [HP.out]
    dsimp only
    rw [if_neg HE.out]
    exact ⟨rfl, s, fun h => absurd h HE.out, (Mem.list' (L1 := [readerR b r1, cellsR sb 27 s.cells]) (L := []) (Mem.sub HM.out (by repeat first | exact Sub.nil | refine Sub.cons (by with_reducible repeat first | exact ph | apply pt) ?_))).upd⟩
theorem take_token {A : Nat → Prop} (w : World) (b sb : Nat) (n : Int) (r : Rdr) (s : Sd) (hl : r.b.length ≤ 70368744177664) (h : SepL [readerR b r, cellsR sb 27 s.cells] A w) :
    Calls Tryz.prog 94 #[rdV b, .pointer (some ⟨sb, 0, none⟩)] w (TakeP A w b sb .token r s) := by
  obtain ⟨⟨r1, x, no⟩, hq⟩ : ∃ q, r.txt 200 = q := ⟨_, rfl⟩
  have HQ := Lib.hid hq
  have HP := Lib.hid (show Part.take .token r s = (r1, { s with token := x }) by show ((r.txt 200).1, { s with token := (r.txt 200).2.1 }) = _; rw [hq])
  clear hq
  have HM := Lib.hid (Mem.start (F := A) (r := listR [readerR b r, cellsR sb 27 s.cells]) h).unlist
  simp only [List.cons_append, List.nil_append] at HM
  have HLL := Lib.hid hl
  unfold Sd.cells at HM
  clear h hl
  go_enter Tryz.func94, Tryz.ntmps94
  have fM := HM.out.fa
  go_wp2_with fail
  all_goals clear fM
  refine nxt HM fun w1 M => ?_
  clear HM; have HM := M; clear M
  obtain ⟨C, hC, hS⟩ := (HM.out.pick (r := readerR b r) (by with_reducible repeat first | exact ph | apply pt)).step
  refine (ftxt_any w1 b r 200 (by decide) HLL.out hC).mono ?_
  rintro e w2 ⟨rfl, hU⟩
  replace HM := Lib.hid (hS _ _ hU)
  rw [HQ.out] at HM ⊢
  dsimp only at HM ⊢
  clear hU hS hC C
  by_cases he : r1.e = 0
  · rw [if_pos he]
    have HE := Lib.hid he
    clear he
    have fM := HM.out.fa
    go_wp2_with fail
    all_goals clear fM
    go_end0
    unfold TakeP
    rw [HP.out]
    dsimp only
    rw [if_pos HE.out]
    refine ⟨rfl, { s with token := x }, fun _ => rfl, ?_⟩
    refine nxt HM fun w3 M => ?_
    clear HM; have HM := M; clear M
    exact (Mem.list' (L1 := [readerR b r1, cellsR sb 27 ({ s with token := x } : Sd).cells]) (L := []) (Mem.sub HM.out (by repeat first | exact Sub.nil | refine Sub.cons (by with_reducible repeat first | exact ph | apply pt) ?_))).upd
  · rw [if_neg he]
    have HE := Lib.hid he
    clear he
    unfold saidE
    go_wp2_with fail
    refine ⟨rfl, ?_⟩
    unfold TakeP
    rw [HP.out]
    dsimp only
    rw [if_neg HE.out]
    exact ⟨rfl, s, fun h => absurd h HE.out, (Mem.list' (L1 := [readerR b r1, cellsR sb 27 s.cells]) (L := []) (Mem.sub HM.out (by repeat first | exact Sub.nil | refine Sub.cons (by with_reducible repeat first | exact ph | apply pt) ?_))).upd⟩
theorem take_is {A : Nat → Prop} (w : World) (b sb : Nat) (r : Rdr) (s : Sd) (hl : r.b.length ≤ 70368744177664) (h : SepL [readerR b r, cellsR sb 27 s.cells] A w) :
    Calls Tryz.prog 114 #[rdV b, .pointer (some ⟨sb, 0, none⟩)] w (TakeP A w b sb .is r s) := by
  have hno := r.tru_e'
  obtain ⟨⟨r1, x, no⟩, hq⟩ : ∃ q, r.tru = q := ⟨_, rfl⟩
  have HQ := Lib.hid hq
  have HP := Lib.hid (show Part.take .is r s = (r1, { s with is := x }) by show (r.tru.1, { s with is := r.tru.2.1 }) = _; rw [hq])
  rw [hq] at hno
  dsimp only at hno
  clear hq
  have HM := Lib.hid (Mem.start (F := A) (r := listR [readerR b r, cellsR sb 27 s.cells]) h).unlist
  simp only [List.cons_append, List.nil_append] at HM
  have HLL := Lib.hid hl
  unfold Sd.cells at HM
  clear h hl
  go_enter Tryz.func114, Tryz.ntmps114
  have fM := HM.out.fa
  go_wp2_with fail
  all_goals clear fM
  refine nxt HM fun w1 M => ?_
  clear HM; have HM := M; clear M
  obtain ⟨C, hC, hS⟩ := (HM.out.pick (r := readerR b r) (by with_reducible repeat first | exact ph | apply pt)).step
  refine (rtruth_any w1 b r HLL.out hC).mono ?_
  rintro e w2 ⟨rfl, hU⟩
  replace HM := Lib.hid (hS _ _ hU)
  rw [HQ.out] at HM ⊢
  dsimp only at HM ⊢
  clear hU hS hC C
  by_cases he : no = 0
  · have HE := Lib.hid (show r1.e = 0 by rw [← hno]; exact he)
    subst he
    clear hno
    have fM := HM.out.fa
    go_wp2_with fail
    all_goals clear fM
    refine (fmust_any _ _).mono ?_
    rintro e w' ⟨rfl, hwq⟩
    rw [hwq]
    clear hwq w'
    simp only [if_true]
    have fM := HM.out.fa
    go_wp2_with fail
    all_goals clear fM
    go_end0
    unfold TakeP
    rw [HP.out]
    dsimp only
    rw [if_pos HE.out]
    refine ⟨rfl, { s with is := x }, fun _ => rfl, ?_⟩
    refine nxt HM fun w3 M => ?_
    clear HM; have HM := M; clear M
    exact (Mem.list' (L1 := [readerR b r1, cellsR sb 27 ({ s with is := x } : Sd).cells]) (L := []) (Mem.sub HM.out (by repeat first | exact Sub.nil | refine Sub.cons (by with_reducible repeat first | exact ph | apply pt) ?_))).upd
  · have HE := Lib.hid (show ¬ r1.e = 0 by rw [← hno]; exact he)
    have he3 : (no == 0) = false := by simpa using he
    clear hno he
    have fM := HM.out.fa
    go_wp2_with fail
    all_goals clear fM
    refine (fmust_any _ _).mono ?_
    rintro e w' ⟨rfl, hwq⟩
    rw [hwq]
    clear hwq w'
    simp only [Bool.false_eq_true, if_false]
    unfold saidE
    go_wp2_with fail
    refine ⟨rfl, ?_⟩
    unfold TakeP
    rw [HP.out]
    dsimp only
    rw [if_neg HE.out]
    exact ⟨rfl, s, fun h => absurd h HE.out, (Mem.list' (L1 := [readerR b r1, cellsR sb 27 s.cells]) (L := []) (Mem.sub HM.out (by repeat first | exact Sub.nil | refine Sub.cons (by with_reducible repeat first | exact ph | apply pt) ?_))).upd⟩
end Go.Proofs.YtcfgnbbiljohjaaGreatDoor
end
section
/- The parts of what is said: an entry taken off a reader; any part. Conditions: it lies as 'readerR' says, what is said in a block known whole. -/
set_option linter.unusedVariables false
set_option linter.unusedSimpArgs false
set_option maxHeartbeats 4000000
set_option maxRecDepth 10000
namespace Go.Proofs.YtcfgnbbiljohjaaGreatDoor
open Go.RowKit
/-- a call behind which the reader and what is said lie anew -/
theorem take_entry {A : Nat → Prop} (w : World) (b sb : Nat) (r : Rdr) (s : Sd) (hl : r.b.length ≤ 70368744177664) (h : SepL [readerR b r, cellsR sb 27 s.cells] A w) :
    Calls Tryz.prog 120 #[rdV b, .pointer (some ⟨sb, 0, none⟩)] w (TakeP A w b sb .entry r s) := by
  obtain ⟨⟨r1, x1, no1⟩, hq1⟩ : ∃ q, r.num 4 = q := ⟨_, rfl⟩
  obtain ⟨⟨r2, x2, no2⟩, hq2⟩ : ∃ q, r1.num 15 = q := ⟨_, rfl⟩
  obtain ⟨⟨r3, x3, no3⟩, hq3⟩ : ∃ q, r2.num 2147483647 = q := ⟨_, rfl⟩
  obtain ⟨⟨r4, x4, no4⟩, hq4⟩ : ∃ q, r3.txt 200 = q := ⟨_, rfl⟩
  have hp : Part.take .entry r s = if x1 = 4 then (r4, { s with e := ⟨x1, x2, x3, x4⟩ }) else (r2, { s with e := ⟨x1, x2, s.e.number, s.e.text⟩ }) := by
    show (if (r.num 4).2.1 = 4 then _ else _) = _
    rw [hq1]; dsimp only
    rw [hq2]; dsimp only
    rw [hq3]; dsimp only
    rw [hq4]
  have hl1 : r1.b.length ≤ r.b.length := by have := r.num_len 4; rwa [hq1] at this
  have hl2 : r2.b.length ≤ r1.b.length := by have := r1.num_len 15; rwa [hq2] at this
  have hl3 : r3.b.length ≤ r2.b.length := by have := r2.num_len 2147483647; rwa [hq3] at this
  have HQ := Lib.hid (show _ ∧ _ ∧ _ ∧ _ from ⟨hq1, hq2, hq3, hq4⟩)
  have HLN := Lib.hid (show r.b.length ≤ 70368744177664 ∧ r1.b.length ≤ 70368744177664 ∧ r2.b.length ≤ 70368744177664 ∧ r3.b.length ≤ 70368744177664 by omega)
  have s12 : r1.e ≠ 0 → r2 = r1 := fun h => by have := r1.num_err 15 h; rw [hq2] at this; exact congrArg Prod.fst this
  have s23 : r2.e ≠ 0 → r3 = r2 := fun h => by have := r2.num_err 2147483647 h; rw [hq3] at this; exact congrArg Prod.fst this
  have s34 : r3.e ≠ 0 → r4 = r3 := fun h => by have := Rdr.txt_sticky 200 h; have h2 := r3.num_err 200 h; have : r3.txt 200 = (r3, [], r3.e) := by (unfold Rdr.txt; rw [h2]; exact if_pos h)
                                               rw [hq4] at this; exact congrArg Prod.fst this
  clear hq1 hq2 hq3 hq4 hl1 hl2 hl3
  have HM := Lib.hid (Mem.start (F := A) (r := listR [readerR b r, cellsR sb 27 s.cells]) h).unlist
  simp only [List.cons_append, List.nil_append] at HM
  have HLL := Lib.hid hl
  unfold Sd.cells at HM
  clear h hl
  show Calls _ 120 _ _ _
  go_enter Tryz.func120, Tryz.ntmps120
  have fM := HM.out.fa
  go_wp2_with fail
  all_goals clear fM
  obtain ⟨kb, hkb⟩ : ∃ k, w.heap.size = k := ⟨_, rfl⟩
  refine nxt HM fun w1 M => ?_
  clear HM; have HM := M; clear M
  rw [hkb] at HM ⊢
  clear hkb
  obtain ⟨C, hC, hn1, hn2, hS⟩ := HM.out.apart2 (r := readerR b r) (b1 := kb) (b2 := sb) (by with_reducible repeat first | exact ph | apply pt) (by with_reducible repeat first | exact ph | apply pt) (by with_reducible repeat first | exact ph | apply pt)
  by_cases e1 : r1.e = 0
  case neg =>
    have hp' : Part.take .entry r s = (r1, (Part.take .entry r s).2) := by
      have h2 := s12 e1
      subst h2
      have h3 := s23 e1
      subst h3
      have h4 := s34 e1
      subst h4
      rw [hp]; split <;> rfl
    obtain ⟨s9, hs9⟩ : ∃ s9, (Part.take .entry r s).2 = s9 := ⟨_, rfl⟩
    rw [hs9] at hp'
    have HP := Lib.hid hp'
    have HE := Lib.hid e1
    clear hp hp' hs9 e1 s12 s23 s34
    have fM := HM.out.fa
    have hE0 : Keeps (C) w1 w1.drew := (Keeps.refl _ _).drew
    refine wp_region_plan [(0, 0), (0, 1), (3, 2), (1, 4), (2, 3)] [4] [3, 5, 6, 7, 8, 9, 10, 11] [5, 6, 7, 8, 9, 10, 11] (ClsK (C) w1) (by kernel_rfl) (by kernel_rfl) (by kernel_rfl) rfl rfl (ClsK.of hE0) (fun _ _ _ d _ h => by cases d <;> exact h) ?_; simp only [planL, nL]
    iterate 2 (refine pM _ rfl rfl ?_; simp only [nP, nE])
    refine pX (v := ?_) rfl ?_ ?_; rotate_left; (go_simp <;> with_reducible rfl); simp only [nP]
    refine pK (v := ?_) rfl (fun W => ?_) ?_; rotate_left; (go_simp <;> with_reducible rfl); simp only [nP]
    refine plan_does rfl (fun K hK => ?_)
    go_wp2_with fail
    refine (fnum_any _ b r 4 (by decide) HLN.out.1 (Res.keeps _ hC (Ext.drew0 w1) (fun _ _ => noB _))).mono ?_
    rintro e w2 ⟨rfl, hU⟩
    rw [HQ.out.1] at hU ⊢
    dsimp only at hU ⊢
    rw [if_neg HE.out]
    unfold saidE
    refine ⟨rfl, ?_⟩
    replace HM := Lib.hid (hS _ _ (hU.pre (Ext.drew0 w1)))
    clear hK K hE0 hU hS hC hn1 hn2 fM
    unfold TakeP
    rw [HP.out]
    dsimp only
    rw [if_neg HE.out]
    exact ⟨rfl, s, fun h => absurd h HE.out, (Mem.list' (L1 := [readerR b r1, cellsR sb 27 (s : Sd).cells]) (L := []) (Mem.sub HM.out (by repeat first | exact Sub.nil | refine Sub.cons (by with_reducible repeat first | exact ph | apply pt) ?_))).upd⟩
  have HE1 := Lib.hid e1
  clear e1 s12
  by_cases e2 : r2.e = 0
  case neg =>
    have hp' : Part.take .entry r s = (r2, (Part.take .entry r s).2) := by
      have h3 := s23 e2
      subst h3
      have h4 := s34 e2
      subst h4
      rw [hp]; split <;> rfl
    obtain ⟨s9, hs9⟩ : ∃ s9, (Part.take .entry r s).2 = s9 := ⟨_, rfl⟩
    rw [hs9] at hp'
    have HP := Lib.hid hp'
    have HE := Lib.hid e2
    clear hp hp' hs9 e2 s23 s34
    have fM := HM.out.fa
    have hE0 : Keeps (C) w1 w1.drew := (Keeps.refl _ _).drew
    refine wp_region_plan [(0, 0), (0, 1), (3, 2), (1, 4), (2, 3)] [4] [3, 5, 6, 7, 8, 9, 10, 11] [5, 6, 7, 8, 9, 10, 11] (ClsK (C) w1) (by kernel_rfl) (by kernel_rfl) (by kernel_rfl) rfl rfl (ClsK.of hE0) (fun _ _ _ d _ h => by cases d <;> exact h) ?_; simp only [planL, nL]
    iterate 2 (refine pM _ rfl rfl ?_; simp only [nP, nE])
    refine pX (v := ?_) rfl ?_ ?_; rotate_left; (go_simp <;> with_reducible rfl); simp only [nP]
    refine pK (v := ?_) rfl (fun W => ?_) ?_; rotate_left; (go_simp <;> with_reducible rfl); simp only [nP]
    refine plan_does rfl (fun K hK => ?_)
    go_wp2_with fail
    refine (fnum_any _ b r 4 (by decide) HLN.out.1 (Res.keeps _ hC (Ext.drew0 w1) (fun _ _ => noB _))).mono ?_
    rintro e w2 ⟨rfl, hU⟩
    rw [HQ.out.1] at hU ⊢
    dsimp only at hU ⊢
    rw [if_pos HE1.out]
    have hU2 := hU.pre (Ext.drew0 w1)
    have hE1 := hU2.keepsTo
    clear hU
    refine hK _ _ ⟨ClsK.of (by assumption), ?_⟩; clear hK K; try simp only [nP]
    refine plan_nil ?_; simp only [tailL, List.filterMap_cons, List.filterMap_nil, nL]; change wpList _ _ _ (_ :: _ :: _ :: _ :: _ :: _ :: _ :: []) _ _
    clear fM
    replace HM := Lib.hid (hS _ _ hU2)
    clear hU2 hE1 hE0 hS hC hn1 hn2
    have fM := HM.out.fa
    go_wp2_with fail
    all_goals clear fM
    obtain ⟨C2, hC2, hS2⟩ := (HM.out.pick (r := readerR b r1) (by with_reducible repeat first | exact ph | apply pt)).step
    refine (fnum_any _ b r1 15 (by decide) HLN.out.2.1 hC2).mono ?_
    rintro e w3 ⟨rfl, hU⟩
    rw [HQ.out.2.1] at hU ⊢
    dsimp only at hU ⊢
    replace HM := Lib.hid (hS2 _ _ hU)
    clear hU hC2 hS2
    clear C2
    rw [if_neg HE.out]
    unfold saidE
    go_wp2_with fail
    refine ⟨rfl, ?_⟩
    unfold TakeP
    rw [HP.out]
    dsimp only
    rw [if_neg HE.out]
    exact ⟨rfl, s, fun h => absurd h HE.out, (Mem.list' (L1 := [readerR b r2, cellsR sb 27 (s : Sd).cells]) (L := []) (Mem.sub HM.out (by repeat first | exact Sub.nil | refine Sub.cons (by with_reducible repeat first | exact ph | apply pt) ?_))).upd⟩
  have HE2 := Lib.hid e2
  clear e2 s23
  by_cases hx : x1 = 4
  case neg =>
    have HP := Lib.hid (show Part.take .entry r s = (r2, { s with e := ⟨x1, x2, s.e.number, s.e.text⟩ }) by rw [hp, if_neg hx])
    have hx' : ¬ (x1 : Int) = 4 := by omega
    clear hp s34 hx
    have fM := HM.out.fa
    have hE0 : Keeps (C) w1 w1.drew := (Keeps.refl _ _).drew
    refine wp_region_plan [(0, 0), (0, 1), (3, 2), (1, 4), (2, 3)] [4] [3, 5, 6, 7, 8, 9, 10, 11] [5, 6, 7, 8, 9, 10, 11] (ClsK (C) w1) (by kernel_rfl) (by kernel_rfl) (by kernel_rfl) rfl rfl (ClsK.of hE0) (fun _ _ _ d _ h => by cases d <;> exact h) ?_; simp only [planL, nL]
    iterate 2 (refine pM _ rfl rfl ?_; simp only [nP, nE])
    refine pX (v := ?_) rfl ?_ ?_; rotate_left; (go_simp <;> with_reducible rfl); simp only [nP]
    refine pK (v := ?_) rfl (fun W => ?_) ?_; rotate_left; (go_simp <;> with_reducible rfl); simp only [nP]
    refine plan_does rfl (fun K hK => ?_)
    go_wp2_with fail
    refine (fnum_any _ b r 4 (by decide) HLN.out.1 (Res.keeps _ hC (Ext.drew0 w1) (fun _ _ => noB _))).mono ?_
    rintro e w2 ⟨rfl, hU⟩
    rw [HQ.out.1] at hU ⊢
    dsimp only at hU ⊢
    rw [if_pos HE1.out]
    have hU2 := hU.pre (Ext.drew0 w1)
    have hE1 := hU2.keepsTo
    clear hU
    refine hK _ _ ⟨ClsK.of (by assumption), ?_⟩; clear hK K; try simp only [nP]
    refine plan_nil ?_; simp only [tailL, List.filterMap_cons, List.filterMap_nil, nL]; change wpList _ _ _ (_ :: _ :: _ :: _ :: _ :: _ :: _ :: []) _ _
    clear fM
    replace HM := Lib.hid (hS _ _ hU2)
    clear hU2 hE1 hE0 hS hC hn1 hn2
    have fM := HM.out.fa
    go_wp2_with fail
    all_goals clear fM
    obtain ⟨C2, hC2, hS2⟩ := (HM.out.pick (r := readerR b r1) (by with_reducible repeat first | exact ph | apply pt)).step
    refine (fnum_any _ b r1 15 (by decide) HLN.out.2.1 hC2).mono ?_
    rintro e w3 ⟨rfl, hU⟩
    rw [HQ.out.2.1] at hU ⊢
    dsimp only at hU ⊢
    replace HM := Lib.hid (hS2 _ _ hU)
    clear hU hC2 hS2
    clear C2
    rw [if_pos HE2.out]
    have fM := HM.out.fa
    go_wp2_with fail
    all_goals clear fM
    go_end0
    unfold TakeP
    rw [HP.out]
    dsimp only
    rw [if_pos HE2.out]
    refine ⟨rfl, { s with e := ⟨x1, x2, s.e.number, s.e.text⟩ }, fun _ => rfl, ?_⟩
    refine nxt HM fun w4 M => ?_
    clear HM; have HM := M; clear M
    exact (Mem.list' (L1 := [readerR b r2, cellsR sb 27 ({ s with e := ⟨x1, x2, s.e.number, s.e.text⟩ } : Sd).cells]) (L := []) (Mem.sub HM.out (by repeat first | exact Sub.nil | refine Sub.cons (by with_reducible repeat first | exact ph | apply pt) ?_))).upd
  subst hx
  have HP4 := Lib.hid (show Part.take .entry r s = (r4, { s with e := ⟨4, x2, x3, x4⟩ }) by rw [hp, if_pos rfl]; rfl)
  clear hp
  by_cases e3 : r3.e = 0
  case neg =>
    have h4 := s34 e3
    subst h4
    have HP := Lib.hid HP4.out
    have HE := Lib.hid e3
    clear e3 s34 HP4
    have fM := HM.out.fa
    have hE0 : Keeps (C) w1 w1.drew := (Keeps.refl _ _).drew
    refine wp_region_plan [(0, 0), (0, 1), (3, 2), (1, 4), (2, 3)] [4] [3, 5, 6, 7, 8, 9, 10, 11] [5, 6, 7, 8, 9, 10, 11] (ClsK (C) w1) (by kernel_rfl) (by kernel_rfl) (by kernel_rfl) rfl rfl (ClsK.of hE0) (fun _ _ _ d _ h => by cases d <;> exact h) ?_; simp only [planL, nL]
    iterate 2 (refine pM _ rfl rfl ?_; simp only [nP, nE])
    refine pX (v := ?_) rfl ?_ ?_; rotate_left; (go_simp <;> with_reducible rfl); simp only [nP]
    refine pK (v := ?_) rfl (fun W => ?_) ?_; rotate_left; (go_simp <;> with_reducible rfl); simp only [nP]
    refine plan_does rfl (fun K hK => ?_)
    go_wp2_with fail
    refine (fnum_any _ b r 4 (by decide) HLN.out.1 (Res.keeps _ hC (Ext.drew0 w1) (fun _ _ => noB _))).mono ?_
    rintro e w2 ⟨rfl, hU⟩
    rw [HQ.out.1] at hU ⊢
    dsimp only at hU ⊢
    rw [if_pos HE1.out]
    have hU2 := hU.pre (Ext.drew0 w1)
    have hE1 := hU2.keepsTo
    clear hU
    refine hK _ _ ⟨ClsK.of (by assumption), ?_⟩; clear hK K; try simp only [nP]
    refine plan_nil ?_; simp only [tailL, List.filterMap_cons, List.filterMap_nil, nL]; change wpList _ _ _ (_ :: _ :: _ :: _ :: _ :: _ :: _ :: []) _ _
    clear fM
    replace HM := Lib.hid (hS _ _ hU2)
    clear hU2 hE1 hE0 hS hC hn1 hn2
    have fM := HM.out.fa
    go_wp2_with fail
    all_goals clear fM
    obtain ⟨C2, hC2, hS2⟩ := (HM.out.pick (r := readerR b r1) (by with_reducible repeat first | exact ph | apply pt)).step
    refine (fnum_any _ b r1 15 (by decide) HLN.out.2.1 hC2).mono ?_
    rintro e w3 ⟨rfl, hU⟩
    rw [HQ.out.2.1] at hU ⊢
    dsimp only at hU ⊢
    replace HM := Lib.hid (hS2 _ _ hU)
    clear hU hC2 hS2
    clear C2
    rw [if_pos HE2.out]
    have fM := HM.out.fa
    go_wp2_with fail
    all_goals clear fM
    refine nxt HM fun w4 M => ?_
    clear HM; have HM := M; clear M
    obtain ⟨C, hC, hn1, hn2, hS⟩ := HM.out.apart2 (r := readerR b r2) (b1 := kb) (b2 := sb) (by with_reducible repeat first | exact ph | apply pt) (by with_reducible repeat first | exact ph | apply pt) (by with_reducible repeat first | exact ph | apply pt)
    have fM := HM.out.fa
    have hE0 : Keeps (C) w4 w4.drew := (Keeps.refl _ _).drew
    refine wp_region_plan [(0, 0), (0, 1), (3, 2), (1, 4), (2, 3)] [4] [3, 5, 6, 7, 8, 9, 10, 11] [5, 6, 7, 8, 9, 10, 11] (ClsK (C) w4) (by kernel_rfl) (by kernel_rfl) (by kernel_rfl) rfl rfl (ClsK.of hE0) (fun _ _ _ d _ h => by cases d <;> exact h) ?_; simp only [planL, nL]
    iterate 2 (refine pM _ rfl rfl ?_; simp only [nP, nE])
    refine pX (v := ?_) rfl ?_ ?_; rotate_left; (go_simp <;> with_reducible rfl); simp only [nP]
    refine pK (v := ?_) rfl (fun W => ?_) ?_; rotate_left; (go_simp <;> with_reducible rfl); simp only [nP]
    refine plan_does rfl (fun K hK => ?_)
    go_wp2_with fail
    refine (fnum_any _ b r2 2147483647 (by decide) HLN.out.2.2.1 (Res.keeps _ hC (Ext.drew0 w4) (fun _ _ => noB _))).mono ?_
    rintro e w5 ⟨rfl, hU⟩
    rw [HQ.out.2.2.1] at hU ⊢
    dsimp only at hU ⊢
    rw [if_neg HE.out]
    unfold saidE
    refine ⟨rfl, ?_⟩
    replace HM := Lib.hid (hS _ _ (hU.pre (Ext.drew0 w4)))
    clear hK K hE0 hU hS hC hn1 hn2 fM
    unfold TakeP
    rw [HP.out]
    dsimp only
    rw [if_neg HE.out]
    exact ⟨rfl, { s with e := ⟨4, x2, s.e.number, s.e.text⟩ }, fun h => absurd h HE.out, (Mem.list' (L1 := [readerR b r4, cellsR sb 27 ({ s with e := ⟨4, x2, s.e.number, s.e.text⟩ } : Sd).cells]) (L := []) (Mem.sub HM.out (by repeat first | exact Sub.nil | refine Sub.cons (by with_reducible repeat first | exact ph | apply pt) ?_))).upd⟩
  have HE3 := Lib.hid e3
  clear e3 s34
  by_cases e4 : r4.e = 0
  case neg =>
    have HP := Lib.hid HP4.out
    have HE := Lib.hid e4
    clear e4 HP4
    have fM := HM.out.fa
    have hE0 : Keeps (C) w1 w1.drew := (Keeps.refl _ _).drew
    refine wp_region_plan [(0, 0), (0, 1), (3, 2), (1, 4), (2, 3)] [4] [3, 5, 6, 7, 8, 9, 10, 11] [5, 6, 7, 8, 9, 10, 11] (ClsK (C) w1) (by kernel_rfl) (by kernel_rfl) (by kernel_rfl) rfl rfl (ClsK.of hE0) (fun _ _ _ d _ h => by cases d <;> exact h) ?_; simp only [planL, nL]
    iterate 2 (refine pM _ rfl rfl ?_; simp only [nP, nE])
    refine pX (v := ?_) rfl ?_ ?_; rotate_left; (go_simp <;> with_reducible rfl); simp only [nP]
    refine pK (v := ?_) rfl (fun W => ?_) ?_; rotate_left; (go_simp <;> with_reducible rfl); simp only [nP]
    refine plan_does rfl (fun K hK => ?_)
    go_wp2_with fail
    refine (fnum_any _ b r 4 (by decide) HLN.out.1 (Res.keeps _ hC (Ext.drew0 w1) (fun _ _ => noB _))).mono ?_
    rintro e w2 ⟨rfl, hU⟩
    rw [HQ.out.1] at hU ⊢
    dsimp only at hU ⊢
    rw [if_pos HE1.out]
    have hU2 := hU.pre (Ext.drew0 w1)
    have hE1 := hU2.keepsTo
    clear hU
    refine hK _ _ ⟨ClsK.of (by assumption), ?_⟩; clear hK K; try simp only [nP]
    refine plan_nil ?_; simp only [tailL, List.filterMap_cons, List.filterMap_nil, nL]; change wpList _ _ _ (_ :: _ :: _ :: _ :: _ :: _ :: _ :: []) _ _
    clear fM
    replace HM := Lib.hid (hS _ _ hU2)
    clear hU2 hE1 hE0 hS hC hn1 hn2
    have fM := HM.out.fa
    go_wp2_with fail
    all_goals clear fM
    obtain ⟨C2, hC2, hS2⟩ := (HM.out.pick (r := readerR b r1) (by with_reducible repeat first | exact ph | apply pt)).step
    refine (fnum_any _ b r1 15 (by decide) HLN.out.2.1 hC2).mono ?_
    rintro e w3 ⟨rfl, hU⟩
    rw [HQ.out.2.1] at hU ⊢
    dsimp only at hU ⊢
    replace HM := Lib.hid (hS2 _ _ hU)
    clear hU hC2 hS2
    clear C2
    rw [if_pos HE2.out]
    have fM := HM.out.fa
    go_wp2_with fail
    all_goals clear fM
    refine nxt HM fun w4 M => ?_
    clear HM; have HM := M; clear M
    obtain ⟨C, hC, hn1, hn2, hS⟩ := HM.out.apart2 (r := readerR b r2) (b1 := kb) (b2 := sb) (by with_reducible repeat first | exact ph | apply pt) (by with_reducible repeat first | exact ph | apply pt) (by with_reducible repeat first | exact ph | apply pt)
    have fM := HM.out.fa
    have hE0 : Keeps (C) w4 w4.drew := (Keeps.refl _ _).drew
    refine wp_region_plan [(0, 0), (0, 1), (3, 2), (1, 4), (2, 3)] [4] [3, 5, 6, 7, 8, 9, 10, 11] [5, 6, 7, 8, 9, 10, 11] (ClsK (C) w4) (by kernel_rfl) (by kernel_rfl) (by kernel_rfl) rfl rfl (ClsK.of hE0) (fun _ _ _ d _ h => by cases d <;> exact h) ?_; simp only [planL, nL]
    iterate 2 (refine pM _ rfl rfl ?_; simp only [nP, nE])
    refine pX (v := ?_) rfl ?_ ?_; rotate_left; (go_simp <;> with_reducible rfl); simp only [nP]
    refine pK (v := ?_) rfl (fun W => ?_) ?_; rotate_left; (go_simp <;> with_reducible rfl); simp only [nP]
    refine plan_does rfl (fun K hK => ?_)
    go_wp2_with fail
    refine (fnum_any _ b r2 2147483647 (by decide) HLN.out.2.2.1 (Res.keeps _ hC (Ext.drew0 w4) (fun _ _ => noB _))).mono ?_
    rintro e w5 ⟨rfl, hU⟩
    rw [HQ.out.2.2.1] at hU ⊢
    dsimp only at hU ⊢
    rw [if_pos HE3.out]
    have hU2 := hU.pre (Ext.drew0 w4)
    have hE1 := hU2.keepsTo
    clear hU
    refine hK _ _ ⟨ClsK.of (by assumption), ?_⟩; clear hK K; try simp only [nP]
    refine plan_nil ?_; simp only [tailL, List.filterMap_cons, List.filterMap_nil, nL]; change wpList _ _ _ (_ :: _ :: _ :: _ :: _ :: _ :: _ :: []) _ _
    clear fM
    replace HM := Lib.hid (hS _ _ hU2)
    clear hU2 hE1 hE0 hS hC hn1 hn2
    have fM := HM.out.fa
    go_wp2_with fail
    all_goals clear fM
    obtain ⟨C2, hC2, hS2⟩ := (HM.out.pick (r := readerR b r3) (by with_reducible repeat first | exact ph | apply pt)).step
    refine (ftxt_any _ b r3 200 (by decide) HLN.out.2.2.2 hC2).mono ?_
    rintro e w6 ⟨rfl, hU⟩
    rw [HQ.out.2.2.2] at hU ⊢
    dsimp only at hU ⊢
    replace HM := Lib.hid (hS2 _ _ hU)
    clear hU hC2 hS2
    clear C2
    rw [if_neg HE.out]
    unfold saidE
    go_wp2_with fail
    refine ⟨rfl, ?_⟩
    unfold TakeP
    rw [HP.out]
    dsimp only
    rw [if_neg HE.out]
    exact ⟨rfl, { s with e := ⟨4, x2, s.e.number, s.e.text⟩ }, fun h => absurd h HE.out, (Mem.list' (L1 := [readerR b r4, cellsR sb 27 ({ s with e := ⟨4, x2, s.e.number, s.e.text⟩ } : Sd).cells]) (L := []) (Mem.sub HM.out (by repeat first | exact Sub.nil | refine Sub.cons (by with_reducible repeat first | exact ph | apply pt) ?_))).upd⟩
  have HE := Lib.hid e4
  clear e4
  have fM := HM.out.fa
  have hE0 : Keeps (C) w1 w1.drew := (Keeps.refl _ _).drew
  refine wp_region_plan [(0, 0), (0, 1), (3, 2), (1, 4), (2, 3)] [4] [3, 5, 6, 7, 8, 9, 10, 11] [5, 6, 7, 8, 9, 10, 11] (ClsK (C) w1) (by kernel_rfl) (by kernel_rfl) (by kernel_rfl) rfl rfl (ClsK.of hE0) (fun _ _ _ d _ h => by cases d <;> exact h) ?_; simp only [planL, nL]
  iterate 2 (refine pM _ rfl rfl ?_; simp only [nP, nE])
  refine pX (v := ?_) rfl ?_ ?_; rotate_left; (go_simp <;> with_reducible rfl); simp only [nP]
  refine pK (v := ?_) rfl (fun W => ?_) ?_; rotate_left; (go_simp <;> with_reducible rfl); simp only [nP]
  refine plan_does rfl (fun K hK => ?_)
  go_wp2_with fail
  refine (fnum_any _ b r 4 (by decide) HLN.out.1 (Res.keeps _ hC (Ext.drew0 w1) (fun _ _ => noB _))).mono ?_
  rintro e w2 ⟨rfl, hU⟩
  rw [HQ.out.1] at hU ⊢
  dsimp only at hU ⊢
  rw [if_pos HE1.out]
  have hU2 := hU.pre (Ext.drew0 w1)
  have hE1 := hU2.keepsTo
  clear hU
  refine hK _ _ ⟨ClsK.of (by assumption), ?_⟩; clear hK K; try simp only [nP]
  refine plan_nil ?_; simp only [tailL, List.filterMap_cons, List.filterMap_nil, nL]; change wpList _ _ _ (_ :: _ :: _ :: _ :: _ :: _ :: _ :: []) _ _
  clear fM
  replace HM := Lib.hid (hS _ _ hU2)
  clear hU2 hE1 hE0 hS hC hn1 hn2
  have fM := HM.out.fa
  go_wp2_with fail
  all_goals clear fM
  obtain ⟨C2, hC2, hS2⟩ := (HM.out.pick (r := readerR b r1) (by with_reducible repeat first | exact ph | apply pt)).step
  refine (fnum_any _ b r1 15 (by decide) HLN.out.2.1 hC2).mono ?_
  rintro e w3 ⟨rfl, hU⟩
  rw [HQ.out.2.1] at hU ⊢
  dsimp only at hU ⊢
  replace HM := Lib.hid (hS2 _ _ hU)
  clear hU hC2 hS2
  clear C2
  rw [if_pos HE2.out]
  have fM := HM.out.fa
  go_wp2_with fail
  all_goals clear fM
  refine nxt HM fun w4 M => ?_
  clear HM; have HM := M; clear M
  obtain ⟨C, hC, hn1, hn2, hS⟩ := HM.out.apart2 (r := readerR b r2) (b1 := kb) (b2 := sb) (by with_reducible repeat first | exact ph | apply pt) (by with_reducible repeat first | exact ph | apply pt) (by with_reducible repeat first | exact ph | apply pt)
  have fM := HM.out.fa
  have hE0 : Keeps (C) w4 w4.drew := (Keeps.refl _ _).drew
  refine wp_region_plan [(0, 0), (0, 1), (3, 2), (1, 4), (2, 3)] [4] [3, 5, 6, 7, 8, 9, 10, 11] [5, 6, 7, 8, 9, 10, 11] (ClsK (C) w4) (by kernel_rfl) (by kernel_rfl) (by kernel_rfl) rfl rfl (ClsK.of hE0) (fun _ _ _ d _ h => by cases d <;> exact h) ?_; simp only [planL, nL]
  iterate 2 (refine pM _ rfl rfl ?_; simp only [nP, nE])
  refine pX (v := ?_) rfl ?_ ?_; rotate_left; (go_simp <;> with_reducible rfl); simp only [nP]
  refine pK (v := ?_) rfl (fun W => ?_) ?_; rotate_left; (go_simp <;> with_reducible rfl); simp only [nP]
  refine plan_does rfl (fun K hK => ?_)
  go_wp2_with fail
  refine (fnum_any _ b r2 2147483647 (by decide) HLN.out.2.2.1 (Res.keeps _ hC (Ext.drew0 w4) (fun _ _ => noB _))).mono ?_
  rintro e w5 ⟨rfl, hU⟩
  rw [HQ.out.2.2.1] at hU ⊢
  dsimp only at hU ⊢
  rw [if_pos HE3.out]
  have hU2 := hU.pre (Ext.drew0 w4)
  have hE1 := hU2.keepsTo
  clear hU
  refine hK _ _ ⟨ClsK.of (by assumption), ?_⟩; clear hK K; try simp only [nP]
  refine plan_nil ?_; simp only [tailL, List.filterMap_cons, List.filterMap_nil, nL]; change wpList _ _ _ (_ :: _ :: _ :: _ :: _ :: _ :: _ :: []) _ _
  clear fM
  replace HM := Lib.hid (hS _ _ hU2)
  clear hU2 hE1 hE0 hS hC hn1 hn2
  have fM := HM.out.fa
  go_wp2_with fail
  all_goals clear fM
  obtain ⟨C2, hC2, hS2⟩ := (HM.out.pick (r := readerR b r3) (by with_reducible repeat first | exact ph | apply pt)).step
  refine (ftxt_any _ b r3 200 (by decide) HLN.out.2.2.2 hC2).mono ?_
  rintro e w6 ⟨rfl, hU⟩
  rw [HQ.out.2.2.2] at hU ⊢
  dsimp only at hU ⊢
  replace HM := Lib.hid (hS2 _ _ hU)
  clear hU hC2 hS2
  clear C2
  rw [if_pos HE.out]
  have fM := HM.out.fa
  go_wp2_with fail
  all_goals clear fM
  go_end0
  unfold TakeP
  rw [HP4.out]
  dsimp only
  rw [if_pos HE.out]
  refine ⟨rfl, { s with e := ⟨4, x2, x3, x4⟩ }, fun _ => rfl, ?_⟩
  refine nxt HM fun w9 M => ?_
  clear HM; have HM := M; clear M
  exact (Mem.list' (L1 := [readerR b r4, cellsR sb 27 ({ s with e := ⟨4, x2, x3, x4⟩ } : Sd).cells]) (L := []) (Mem.sub HM.out (by repeat first | exact Sub.nil | refine Sub.cons (by with_reducible repeat first | exact ph | apply pt) ?_))).upd
theorem ptake_any {A : Nat → Prop} (w : World) (b sb : Nat) (p : Part) (r : Rdr) (s : Sd) (hl : r.b.length ≤ 70368744177664) (h : SepL [readerR b r, cellsR sb 27 s.cells] A w) :
    Calls Tryz.prog (takeF p) #[rdV b, .pointer (some ⟨sb, 0, none⟩)] w (TakeP A w b sb p r s) := by
  cases p
  · exact take_member w b sb 0 r s hl h
  · exact take_number w b sb _ r s hl h
  · exact take_index w b sb 0 r s hl h
  · exact take_is w b sb r s hl h
  · exact take_said w b sb 0 r s hl h
  · exact take_token w b sb 0 r s hl h
  · exact take_entry w b sb r s hl h
end Go.Proofs.YtcfgnbbiljohjaaGreatDoor
end
section
/- Whether what is said is the same, as values. No condition. -/
set_option linter.unusedVariables false
set_option linter.unusedSimpArgs false
set_option maxHeartbeats 4000000
set_option maxRecDepth 10000
namespace Go.Proofs.YtcfgnbbiljohjaaGreatDoor
open Go.RowKit
theorem str_eq (l m : List UInt8) : ((bs l).toList == (bs m).toList) = decide (l = m) := by
  rw [bs_toList, bs_toList, Bool.eq_iff_iff]; simp
theorem int_eq (a b : Int) : (a == b) = decide (a = b) := by rw [Bool.eq_iff_iff]; simp
theorem boo_eq (a b : Bool) : (a == b) = decide (a = b) := by rw [Bool.eq_iff_iff]; simp
theorem eqIn_en (x y : En) (d : Nat) (W : World) : (Op.equalIn (d + 2) 25 x.v y.v).run Tryz.prog W = .ok (decide (x = y)) W := by
  unfold En.v
  rw [run_equalIn_struct W (d + 1) 25 _ _ (by kernel_rfl) (by kernel_rfl)]
  obtain ⟨f, hf⟩ : ∃ f : En → Array Value, f = fun z => #[Value.int .i64 z.kind, .int .i64 z.member, .int .i64 z.number, .string (bs z.text)] := ⟨_, rfl⟩
  have hx : ∀ z : En, #[Value.int .i64 z.kind, .int .i64 z.member, .int .i64 z.number, .string (bs z.text)] = f z := fun z => by rw [hf]
  have p0 : ∀ z : En, (part 23 (f z) 0).run Tryz.prog W = .ok (.int .i64 z.kind) W := fun z => by rw [hf]; exact run_part_plain W (by kernel_rfl) rfl
  have p1 : ∀ z : En, (part 3 (f z) 1).run Tryz.prog W = .ok (.int .i64 z.member) W := fun z => by rw [hf]; exact run_part_plain W (by kernel_rfl) rfl
  have p2 : ∀ z : En, (part 2 (f z) 2).run Tryz.prog W = .ok (.int .i64 z.number) W := fun z => by rw [hf]; exact run_part_plain W (by kernel_rfl) rfl
  have p3 : ∀ z : En, (part 9 (f z) 3).run Tryz.prog W = .ok (.string (bs z.text)) W := fun z => by rw [hf]; exact run_part_plain W (by kernel_rfl) rfl
  rw [hx x, hx y]
  clear hf hx
  have q0 := run_equalIn_int W d 23 .i64 .i64 x.kind y.kind Tryz.underlying23
  have q1 := run_equalIn_int W d 3 .i64 .i64 x.member y.member Tryz.underlying3
  have q2 := run_equalIn_int W d 2 .i64 .i64 x.number y.number Tryz.underlying2
  have q3 := run_equalIn_string W d 9 (bs x.text) (bs y.text) Tryz.underlying9
  rw [str_eq] at q3
  rw [int_eq] at q0 q1 q2
  have he : decide (x = y) = (decide (x.kind = y.kind) && (decide (x.member = y.member) && (decide (x.number = y.number) && decide (x.text = y.text)))) := by
    obtain ⟨a, b, c, e⟩ := x
    obtain ⟨a', b', c', e'⟩ := y
    rw [Bool.eq_iff_iff]; simp
  rw [he]
  simp only [Program.fieldsOf, Tryz.underlying25, Op.eqFields]
  obtain ⟨g0, hg0⟩ : ∃ g : En → Value, g = fun z => Value.int .i64 z.kind := ⟨_, rfl⟩
  have u0 : ∀ z : En, Value.int .i64 z.kind = g0 z := fun z => by rw [hg0]
  simp only [u0] at p0
  rw [u0 x, u0 y] at q0
  clear u0 hg0
  obtain ⟨g1, hg1⟩ : ∃ g : En → Value, g = fun z => Value.int .i64 z.member := ⟨_, rfl⟩
  have u1 : ∀ z : En, Value.int .i64 z.member = g1 z := fun z => by rw [hg1]
  simp only [u1] at p1
  rw [u1 x, u1 y] at q1
  clear u1 hg1
  obtain ⟨g2, hg2⟩ : ∃ g : En → Value, g = fun z => Value.int .i64 z.number := ⟨_, rfl⟩
  have u2 : ∀ z : En, Value.int .i64 z.number = g2 z := fun z => by rw [hg2]
  simp only [u2] at p2
  rw [u2 x, u2 y] at q2
  clear u2 hg2
  obtain ⟨g3, hg3⟩ : ∃ g : En → Value, g = fun z => Value.string (bs z.text) := ⟨_, rfl⟩
  have u3 : ∀ z : En, Value.string (bs z.text) = g3 z := fun z => by rw [hg3]
  simp only [u3] at p3
  rw [u3 x, u3 y] at q3
  clear u3 hg3
  obtain ⟨b0, hb0⟩ : ∃ b, decide (x.kind = y.kind) = b := ⟨_, rfl⟩
  rw [hb0] at q0 ⊢
  clear hb0
  obtain ⟨b1, hb1⟩ : ∃ b, decide (x.member = y.member) = b := ⟨_, rfl⟩
  rw [hb1] at q1 ⊢
  clear hb1
  obtain ⟨b2, hb2⟩ : ∃ b, decide (x.number = y.number) = b := ⟨_, rfl⟩
  rw [hb2] at q2 ⊢
  clear hb2
  obtain ⟨b3, hb3⟩ : ∃ b, decide (x.text = y.text) = b := ⟨_, rfl⟩
  rw [hb3] at q3 ⊢
  clear hb3
  cases b0
  case false => simp [p0, q0, Result.andThen]
  cases b1
  case false => simp [p0, q0, p1, q1, Result.andThen]
  cases b2
  case false => simp [p0, q0, p1, q1, p2, q2, Result.andThen]
  cases b3
  case false => simp [p0, q0, p1, q1, p2, q2, p3, q3, Result.andThen]
  simp [p0, q0, p1, q1, p2, q2, p3, q3, Result.andThen]
theorem eqIn_sd (x y : Sd) (d : Nat) (W : World) : (Op.equalIn (d + 3) 27 x.v y.v).run Tryz.prog W = .ok (decide (x = y)) W := by
  unfold Sd.v Sd.cells
  rw [run_equalIn_struct W (d + 2) 27 _ _ (by kernel_rfl) (by kernel_rfl)]
  obtain ⟨f, hf⟩ : ∃ f : Sd → Array Value, f = fun z => [Value.int .i64 z.kind, .int .i64 z.member, .int .i64 z.number, .int .i64 z.index, .bool z.is, .string (bs z.text), .string (bs z.token), .int .i64 z.e.kind, .int .i64 z.e.member, .int .i64 z.e.number, .string (bs z.e.text)].toArray := ⟨_, rfl⟩
  have hx : ∀ z, [Value.int .i64 z.kind, .int .i64 z.member, .int .i64 z.number, .int .i64 z.index, .bool z.is, .string (bs z.text), .string (bs z.token), .int .i64 z.e.kind, .int .i64 z.e.member, .int .i64 z.e.number, .string (bs z.e.text)].toArray = f z := fun z => by rw [hf]
  have p0 : ∀ z, (part 22 (f z) 0).run Tryz.prog W = .ok (.int .i64 z.kind) W := fun z => by rw [hf]; exact run_part_plain W (by kernel_rfl) rfl
  have p1 : ∀ z, (part 3 (f z) 1).run Tryz.prog W = .ok (.int .i64 z.member) W := fun z => by rw [hf]; exact run_part_plain W (by kernel_rfl) rfl
  have p2 : ∀ z, (part 2 (f z) 2).run Tryz.prog W = .ok (.int .i64 z.number) W := fun z => by rw [hf]; exact run_part_plain W (by kernel_rfl) rfl
  have p3 : ∀ z, (part 2 (f z) 3).run Tryz.prog W = .ok (.int .i64 z.index) W := fun z => by rw [hf]; exact run_part_plain W (by kernel_rfl) rfl
  have p4 : ∀ z, (part 4 (f z) 4).run Tryz.prog W = .ok (.bool z.is) W := fun z => by rw [hf]; exact run_part_plain W (by kernel_rfl) rfl
  have p5 : ∀ z, (part 9 (f z) 5).run Tryz.prog W = .ok (.string (bs z.text)) W := fun z => by rw [hf]; exact run_part_plain W (by kernel_rfl) rfl
  have p6 : ∀ z, (part 9 (f z) 6).run Tryz.prog W = .ok (.string (bs z.token)) W := fun z => by rw [hf]; exact run_part_plain W (by kernel_rfl) rfl
  have p7 : ∀ z, (part 25 (f z) 7).run Tryz.prog W = .ok z.e.v W := fun z => by rw [hf]; exact part_agg (n := 4) Tryz.underlying25 rfl (by kernel_rfl) W
  rw [hx x, hx y]
  clear hf hx
  have q0 := run_equalIn_int W (d + 1) 22 .i64 .i64 x.kind y.kind Tryz.underlying22
  have q1 := run_equalIn_int W (d + 1) 3 .i64 .i64 x.member y.member Tryz.underlying3
  have q2 := run_equalIn_int W (d + 1) 2 .i64 .i64 x.number y.number Tryz.underlying2
  have q3 := run_equalIn_int W (d + 1) 2 .i64 .i64 x.index y.index Tryz.underlying2
  have q4 := run_equalIn_bool W (d + 1) 4 x.is y.is Tryz.underlying4
  have q5 := run_equalIn_string W (d + 1) 9 (bs x.text) (bs y.text) Tryz.underlying9
  have q6 := run_equalIn_string W (d + 1) 9 (bs x.token) (bs y.token) Tryz.underlying9
  have q7 := eqIn_en x.e y.e d W
  rw [str_eq] at q5 q6
  rw [int_eq] at q0 q1 q2 q3
  rw [boo_eq] at q4
  have he : decide (x = y) = (decide (x.kind = y.kind) && (decide (x.member = y.member) && (decide (x.number = y.number) && (decide (x.index = y.index) && (decide (x.is = y.is) && (decide (x.text = y.text) && (decide (x.token = y.token) && decide (x.e = y.e)))))))) := by
    obtain ⟨a, b, c, e, a1, a2, a3, a4⟩ := x
    obtain ⟨a', b', c', e', a1', a2', a3', a4'⟩ := y
    rw [Bool.eq_iff_iff]; simp
  rw [he]
  simp only [Program.fieldsOf, Tryz.underlying27, Op.eqFields]
  obtain ⟨g0, hg0⟩ : ∃ g : Sd → Value, g = fun z => Value.int .i64 z.kind := ⟨_, rfl⟩
  have u0 : ∀ z : Sd, Value.int .i64 z.kind = g0 z := fun z => by rw [hg0]
  simp only [u0] at p0
  rw [u0 x, u0 y] at q0
  clear u0 hg0
  obtain ⟨g1, hg1⟩ : ∃ g : Sd → Value, g = fun z => Value.int .i64 z.member := ⟨_, rfl⟩
  have u1 : ∀ z : Sd, Value.int .i64 z.member = g1 z := fun z => by rw [hg1]
  simp only [u1] at p1
  rw [u1 x, u1 y] at q1
  clear u1 hg1
  obtain ⟨g2, hg2⟩ : ∃ g : Sd → Value, g = fun z => Value.int .i64 z.number := ⟨_, rfl⟩
  have u2 : ∀ z : Sd, Value.int .i64 z.number = g2 z := fun z => by rw [hg2]
  simp only [u2] at p2
  rw [u2 x, u2 y] at q2
  clear u2 hg2
  obtain ⟨g3, hg3⟩ : ∃ g : Sd → Value, g = fun z => Value.int .i64 z.index := ⟨_, rfl⟩
  have u3 : ∀ z : Sd, Value.int .i64 z.index = g3 z := fun z => by rw [hg3]
  simp only [u3] at p3
  rw [u3 x, u3 y] at q3
  clear u3 hg3
  obtain ⟨g4, hg4⟩ : ∃ g : Sd → Value, g = fun z => Value.bool z.is := ⟨_, rfl⟩
  have u4 : ∀ z : Sd, Value.bool z.is = g4 z := fun z => by rw [hg4]
  simp only [u4] at p4
  rw [u4 x, u4 y] at q4
  clear u4 hg4
  obtain ⟨g5, hg5⟩ : ∃ g : Sd → Value, g = fun z => Value.string (bs z.text) := ⟨_, rfl⟩
  have u5 : ∀ z : Sd, Value.string (bs z.text) = g5 z := fun z => by rw [hg5]
  simp only [u5] at p5
  rw [u5 x, u5 y] at q5
  clear u5 hg5
  obtain ⟨g6, hg6⟩ : ∃ g : Sd → Value, g = fun z => Value.string (bs z.token) := ⟨_, rfl⟩
  have u6 : ∀ z : Sd, Value.string (bs z.token) = g6 z := fun z => by rw [hg6]
  simp only [u6] at p6
  rw [u6 x, u6 y] at q6
  clear u6 hg6
  obtain ⟨g7, hg7⟩ : ∃ g : Sd → Value, g = fun z => z.e.v := ⟨_, rfl⟩
  have u7 : ∀ z : Sd, z.e.v = g7 z := fun z => by rw [hg7]
  simp only [u7] at p7
  rw [u7 x, u7 y] at q7
  clear u7 hg7
  obtain ⟨b0, hb0⟩ : ∃ b, decide (x.kind = y.kind) = b := ⟨_, rfl⟩
  rw [hb0] at q0 ⊢
  clear hb0
  obtain ⟨b1, hb1⟩ : ∃ b, decide (x.member = y.member) = b := ⟨_, rfl⟩
  rw [hb1] at q1 ⊢
  clear hb1
  obtain ⟨b2, hb2⟩ : ∃ b, decide (x.number = y.number) = b := ⟨_, rfl⟩
  rw [hb2] at q2 ⊢
  clear hb2
  obtain ⟨b3, hb3⟩ : ∃ b, decide (x.index = y.index) = b := ⟨_, rfl⟩
  rw [hb3] at q3 ⊢
  clear hb3
  obtain ⟨b4, hb4⟩ : ∃ b, decide (x.is = y.is) = b := ⟨_, rfl⟩
  rw [hb4] at q4 ⊢
  clear hb4
  obtain ⟨b5, hb5⟩ : ∃ b, decide (x.text = y.text) = b := ⟨_, rfl⟩
  rw [hb5] at q5 ⊢
  clear hb5
  obtain ⟨b6, hb6⟩ : ∃ b, decide (x.token = y.token) = b := ⟨_, rfl⟩
  rw [hb6] at q6 ⊢
  clear hb6
  obtain ⟨b7, hb7⟩ : ∃ b, decide (x.e = y.e) = b := ⟨_, rfl⟩
  rw [hb7] at q7 ⊢
  clear hb7
  cases b0
  case false => simp [p0, q0, Result.andThen]
  cases b1
  case false => simp [p0, q0, p1, q1, Result.andThen]
  cases b2
  case false => simp [p0, q0, p1, q1, p2, q2, Result.andThen]
  cases b3
  case false => simp [p0, q0, p1, q1, p2, q2, p3, q3, Result.andThen]
  cases b4
  case false => simp [p0, q0, p1, q1, p2, q2, p3, q3, p4, q4, Result.andThen]
  cases b5
  case false => simp [p0, q0, p1, q1, p2, q2, p3, q3, p4, q4, p5, q5, Result.andThen]
  cases b6
  case false => simp [p0, q0, p1, q1, p2, q2, p3, q3, p4, q4, p5, q5, p6, q6, Result.andThen]
  cases b7
  case false => simp [p0, q0, p1, q1, p2, q2, p3, q3, p4, q4, p5, q5, p6, q6, p7, q7, Result.andThen]
  simp [p0, q0, p1, q1, p2, q2, p3, q3, p4, q4, p5, q5, p6, q6, p7, q7, Result.andThen]
theorem eq_sd (x y : Sd) (W : World) : (binOp .eql 27 x.v y.v).run Tryz.prog W = .ok (.bool (decide (x = y))) W := eql_of (eqIn_sd x y 9997 W)
theorem ne_sd (x y : Sd) (W : World) : (binOp .neq 27 x.v y.v).run Tryz.prog W = .ok (.bool (!decide (x = y))) W := neq_of (eqIn_sd x y 9997 W)
end Go.Proofs.YtcfgnbbiljohjaaGreatDoor
end
section
/- frames.Check: whether it may be said. Conditions: unicode/utf8's tables read as they are laid; what is said fits the machine. -/
set_option linter.unusedVariables false
set_option linter.unusedSimpArgs false
set_option maxHeartbeats 4000000
set_option maxRecDepth 10000
namespace Go.Proofs.YtcfgnbbiljohjaaGreatDoor
open Go.RowKit
theorem partCells_eq (k : Nat) (p : Part) : partCells k p = [.func (.func (clearF p)) #[] #[], .func (.func (mayF k p).1) #[] (mayF k p).2, .func (.func (layF p)) #[] #[], .func (.func (takeF p)) #[] #[]] := by cases p <;> rfl
theorem partCells_len (k : Nat) (p : Part) : (partCells k p).length = 4 := by rw [partCells_eq]; rfl
theorem pcs_get (k : Nat) : ∀ (ps : List Part) (j i : Nat) (hj : j < ps.length), i < 4 → (pcs k ps)[j * 4 + i]? = (partCells k ps[j])[i]?
  | p :: ps, 0, i, hj, hi => by
    unfold pcs
    rw [List.map_cons, List.flatten_cons, Nat.zero_mul, Nat.zero_add, List.getElem?_append_left (by rw [partCells_len]; exact hi)]
    rfl
  | p :: ps, j + 1, i, hj, hi => by
    have ih := pcs_get k ps j i (by simpa using hj) hi
    unfold pcs at ih ⊢
    rw [List.map_cons, List.flatten_cons, List.getElem?_append_right (by rw [partCells_len]; omega), partCells_len, show (j + 1) * 4 + i - 4 = j * 4 + i by omega, ih]
    rfl
theorem clear_enters (p : Part) : ∀ args w, (callFunc (clearF p) args).run Tryz.prog w = .ok (.enter (clearF p) args) w := by
  cases p
  · exact enters_of Tryz.func85 (by kernel_rfl) rfl
  · exact enters_of Tryz.func96 (by kernel_rfl) rfl
  · exact enters_of Tryz.func106 (by kernel_rfl) rfl
  · exact enters_of Tryz.func110 (by kernel_rfl) rfl
  · exact enters_of Tryz.func101 (by kernel_rfl) rfl
  · exact enters_of Tryz.func90 (by kernel_rfl) rfl
  · exact enters_of Tryz.func116 (by kernel_rfl) rfl
theorem lay_enters (p : Part) : ∀ args w, (callFunc (layF p) args).run Tryz.prog w = .ok (.enter (layF p) args) w := by
  cases p
  · exact enters_of Tryz.func88 (by kernel_rfl) rfl
  · exact enters_of Tryz.func99 (by kernel_rfl) rfl
  · exact enters_of Tryz.func108 (by kernel_rfl) rfl
  · exact enters_of Tryz.func112 (by kernel_rfl) rfl
  · exact enters_of Tryz.func104 (by kernel_rfl) rfl
  · exact enters_of Tryz.func92 (by kernel_rfl) rfl
  · exact enters_of Tryz.func119 (by kernel_rfl) rfl
theorem take_enters (p : Part) : ∀ args w, (callFunc (takeF p) args).run Tryz.prog w = .ok (.enter (takeF p) args) w := by
  cases p
  · exact enters_of Tryz.func89 (by kernel_rfl) rfl
  · exact enters_of Tryz.func100 (by kernel_rfl) rfl
  · exact enters_of Tryz.func109 (by kernel_rfl) rfl
  · exact enters_of Tryz.func114 (by kernel_rfl) rfl
  · exact enters_of Tryz.func105 (by kernel_rfl) rfl
  · exact enters_of Tryz.func94 (by kernel_rfl) rfl
  · exact enters_of Tryz.func120 (by kernel_rfl) rfl
theorem may_enters (k : Nat) (p : Part) : ∀ args w, (callFunc (mayF k p).1 args).run Tryz.prog w = .ok (.enter (mayF k p).1 args) w := by
  cases p
  · exact enters_of Tryz.func86 (by kernel_rfl) rfl
  · exact enters_of Tryz.func97 (by kernel_rfl) rfl
  · exact enters_of Tryz.func107 (by kernel_rfl) rfl
  · exact enters_of Tryz.func111 (by kernel_rfl) rfl
  · exact enters_of Tryz.func102 (by kernel_rfl) rfl
  · exact enters_of Tryz.func91 (by kernel_rfl) rfl
  · exact enters_of Tryz.func117 (by kernel_rfl) rfl
/-- the slice of parts, and what its cells read -/
theorem parts_at {A : Nat → Prop} {w : World} {v : Value} {ps : List Part} (h : (partsR v ps).p A w) : ∃ a k, v = .slice a ps.length ps.length ∧ (∀ least, Part.number least ∈ ps → Box w k 2 [.int .i64 least]) ∧
    ∀ j (hj : j < ps.length), ∃ q, a = some ⟨q, 0, none⟩ ∧ q < w.heap.size ∧ w.cell? ⟨q, j * 4, none⟩ = some (.func (.func (clearF ps[j])) #[] #[]) ∧ w.cell? ⟨q, j * 4 + 1, none⟩ = some (.func (.func (mayF k ps[j]).1) #[] (mayF k ps[j]).2) ∧
      w.cell? ⟨q, j * 4 + 2, none⟩ = some (.func (.func (layF ps[j])) #[] #[]) ∧ w.cell? ⟨q, j * 4 + 3, none⟩ = some (.func (.func (takeF ps[j])) #[] #[]) := by
  obtain ⟨⟨k, h1, h2⟩, -⟩ := h
  rcases h2 with ⟨rfl, rfl⟩ | ⟨q, h3, rfl, h4⟩
  · exact ⟨none, k, rfl, fun l hl => (h1 l hl).2, fun j hj => absurd hj (by simp)⟩
  · refine ⟨some ⟨q, 0, none⟩, k, rfl, fun l hl => (h1 l hl).2, fun j hj => ⟨q, rfl, h4.lt, ?_⟩⟩
    have c := fun i (hi : i < 4) => (h4.reads.1 (j * 4 + i)).trans (pcs_get k ps j i hj hi)
    rw [partCells_eq] at c
    exact ⟨c 0 (by decide), c 1 (by decide), c 2 (by decide), c 3 (by decide)⟩
theorem parts_at' {A : Nat → Prop} {w : World} {a : Option Addr} {ps : List Part} (h : (partsR (.slice a ps.length ps.length) ps).p A w) : ∃ k, (∀ least, Part.number least ∈ ps → Box w k 2 [.int .i64 least]) ∧
    ∀ j (hj : j < ps.length), ∃ q, a = some ⟨q, 0, none⟩ ∧ q < w.heap.size ∧ w.cell? ⟨q, j * 4, none⟩ = some (.func (.func (clearF ps[j])) #[] #[]) ∧ w.cell? ⟨q, j * 4 + 1, none⟩ = some (.func (.func (mayF k ps[j]).1) #[] (mayF k ps[j]).2) ∧
      w.cell? ⟨q, j * 4 + 2, none⟩ = some (.func (.func (layF ps[j])) #[] #[]) ∧ w.cell? ⟨q, j * 4 + 3, none⟩ = some (.func (.func (takeF ps[j])) #[] #[]) := by
  obtain ⟨a', k, h1, h2, h3⟩ := parts_at h
  cases h1
  exact ⟨k, h2, h3⟩
theorem parts_len {A : Nat → Prop} {w : World} {v : Value} {ps : List Part} (h : (partsR v ps).p A w) : ∃ a, v = .slice a ps.length ps.length := let ⟨a, _, h, _⟩ := parts_at h; ⟨a, h⟩
theorem partsOf_len (n : Int) : ((partsOf n).getD []).length ≤ 3 := by
  unfold partsOf
  by_cases h1 : n = 1
  · rw [if_pos h1]; decide
  by_cases h2 : n = 2
  · rw [if_neg h1, if_pos h2]; decide
  by_cases h3 : n = 3
  · rw [if_neg h1, if_neg h2, if_pos h3]; decide
  rw [if_neg h1, if_neg h2, if_neg h3]
  by_cases h4 : n = 4
  · rw [if_pos h4]; decide
  by_cases h5 : n = 5
  · rw [if_neg h4, if_pos h5]; decide
  by_cases h6 : n = 6
  · rw [if_neg h4, if_neg h5, if_pos h6]; decide
  rw [if_neg h4, if_neg h5, if_neg h6]
  by_cases h7 : n = 7
  · rw [if_pos h7]; decide
  by_cases h8 : n = 8
  · rw [if_neg h7, if_pos h8]; decide
  by_cases h9 : n = 9
  · rw [if_neg h7, if_neg h8, if_pos h9]; decide
  rw [if_neg h7, if_neg h8, if_neg h9]
  by_cases h10 : n = 10
  · rw [if_pos h10]; decide
  by_cases h11 : n = 11
  · rw [if_neg h10, if_pos h11]; decide
  rw [if_neg h10, if_neg h11]
  by_cases h12 : n = 12
  · rw [if_pos h12]; decide
  · rw [if_neg h12]; decide
theorem foldl_take {α β : Type} (f : β → α → β) (b : β) (l : List α) (j : Nat) (h : j < l.length) : (l.take (j + 1)).foldl f b = f ((l.take j).foldl f b) l[j] := by
  rw [List.take_succ_eq_append_getElem h, List.foldl_append]; rfl
theorem partV_eq (k : Nat) (p : Part) : partV k p = .agg #[.func (.func (clearF p)) #[] #[], .func (.func (mayF k p).1) #[] (mayF k p).2, .func (.func (layF p)) #[] #[], .func (.func (takeF p)) #[] #[]] := by unfold partV; rw [partCells_eq]
theorem check1_any (W w : World) (hT : Tabs W) (hE : Ext W w) (ks k : Nat) (p : Part) (s : Sd) (hs : OkS s) (hb : Box w ks 27 s.cells) (hk : ∀ n, p = .number n → Box w k 2 [.int .i64 n]) :
    Calls Tryz.prog 31 #[partV k p, .pointer (some ⟨ks, 0, none⟩)] w fun e w' => e = .returned (.bool (!p.may s)) ∧ Ext w w' := by
  have HM := Lib.hid (Mem.start0 w)
  have HE := Lib.hid hE
  have HK := Lib.hid hk
  have HB := Lib.hid hb
  have hen := may_enters k p
  have HV := Lib.hid (show s.v = .agg s.cells.toArray from rfl)
  rw [partV_eq]
  clear hE hk hb
  obtain ⟨f, cs, hfc⟩ : ∃ f cs, mayF k p = (f, cs) := ⟨_, _, rfl⟩
  have HFC := Lib.hid hfc
  rw [hfc] at hen ⊢
  dsimp only at hen ⊢
  clear hfc
  unfold Sd.cells at HB
  go_enter Tryz.func31, Tryz.ntmps31
  have fM := HM.out.fa
  have fMHB := (HB.out.ext HM.out.extTo).reads
  have fLHB := (HB.out.ext HM.out.extTo).lt
  go_wp2_with fail
  all_goals clear fM fMHB fLHB
  refine nxt HM fun w1 M => ?_
  clear HM; have HM := M; clear M
  have hm := may_any W w1 hT (HE.out.ext HM.out.extTo) k p s hs (fun n hn => (HK.out n hn).ext HM.out.extTo)
  rw [HFC.out] at hm
  dsimp only at hm
  unfold Sd.v Sd.cells at hm
  clear hen
  refine hm.mono ?_
  clear hm
  rintro e w2 ⟨rfl, hE2⟩
  replace HM := Lib.hid (HM.out.ext hE2)
  clear hE2
  go_wp2_with fail
  go_ret
  exact ⟨rfl, HM.out.extTo⟩
theorem pindex_any (W w : World) (hT : Tabs W) (hE : Ext W w) (ks : Nat) (a : Option Addr) (ps : List Part) (s : Sd) (hs : OkS s) (hl : ps.length ≤ 3) {A : Nat → Prop} (hp : (partsR (.slice a ps.length ps.length) ps).p A w) (hb : Box w ks 27 s.cells) :
    Calls Tryz.prog 67 #[.slice a ps.length ps.length, .func (.func 31) #[] #[.pointer (some ⟨ks, 0, none⟩)]] w fun e w' => (∃ r : Int, e = .returned (.int .i64 r) ∧ decide (0 ≤ r) = !(ps.all fun p => p.may s)) ∧ Ext w w' := by
  have HE := Lib.hid hE
  have HP := Lib.hid hp
  have HB := Lib.hid hb
  have hc := enters_of (P := Tryz.prog) Tryz.func31 (by kernel_rfl) rfl
  clear hE hp hb
  go_enter Tryz.func67, Tryz.ntmps67
  go_wp2_with fail
  go_loopw [8] (fun i wr => ∃ j : Nat, j ≤ ps.length ∧ i = .int .i64 j ∧ Hid (((ps.take j).all fun p => p.may s) = true) ∧ Hid (Mem NoB w wr [])) (fun i _ => ps.length - (intOf i).toNat)
  case atStart => exact ⟨0, Nat.zero_le _, rfl, Lib.hid (by simp), Lib.hid (Mem.start0 w)⟩
  case round =>
    obtain ⟨j, hj, rfl, HAL, HM⟩ := hrel
    by_cases hlt : j < ps.length
    · have g1 : (j : Int) < ps.length := by omega
      have g2 : ¬ (j : Int) < 0 := by omega
      have he := HM.out.extTo
      have hp2 := Res.keeps _ HP.out he (fun _ _ => noB _)
      obtain ⟨k, hnum, hat⟩ := parts_at' hp2
      obtain ⟨q, rfl, hq, c0, c1, c2, c3⟩ := hat j hlt
      have HSN := Lib.hid (show ((ps.take (j + 1)).all fun p => p.may s) = (((ps.take j).all fun p => p.may s) && ps[j].may s) by rw [List.take_succ_eq_append_getElem hlt, List.all_append]; simp)
      have HIN := Lib.hid (List.getElem_mem hlt)
      have HNU := Lib.hid hnum
      obtain ⟨p, hpj⟩ : ∃ p, ps[j] = p := ⟨_, rfl⟩
      rw [hpj] at c0 c1 c2 c3 HSN HIN
      clear hp2 hat hpj hnum he
      go_wp2_with fail
      clear c0 c1 c2 c3
      rw [← partV_eq]
      refine (check1_any W wr hT (HE.out.ext HM.out.extTo) ks k p s hs (HB.out.ext HM.out.extTo) (fun n hn => HNU.out n (by rw [← hn]; exact HIN.out))).mono ?_
      rintro e w2 ⟨rfl, hE2⟩
      replace HM := Lib.hid (HM.out.ext hE2)
      clear hE2
      cases hm : p.may s
      · go_wp2_with fail
        go_ret
        refine ⟨⟨_, rfl, ?_⟩, HM.out.extTo⟩
        rw [decide_eq_true (by omega)]
        symm
        rw [Bool.not_eq_true', List.all_eq_false]
        exact ⟨p, HIN.out, by rw [hm]; simp⟩
      · rw [hm, HAL.out] at HSN
        clear hm
        go_wp2_with fail
        go_roundw
        case rel => exact ⟨j + 1, by omega, by go_num, HSN, HM⟩
        case measure => simp [intOf]; omega
    · obtain rfl : j = ps.length := by omega
      rw [List.take_length] at HAL
      go_wp2_with fail
      go_ret
      exact ⟨⟨-1, rfl, by rw [HAL.out]; rfl⟩, HM.out.extTo⟩
theorem pcontains_any (W w : World) (hT : Tabs W) (hE : Ext W w) (ks : Nat) (a : Option Addr) (ps : List Part) (s : Sd) (hs : OkS s) (hl : ps.length ≤ 3) {A : Nat → Prop} (hp : (partsR (.slice a ps.length ps.length) ps).p A w) (hb : Box w ks 27 s.cells) :
    Calls Tryz.prog 30 #[.slice a ps.length ps.length, .func (.func 31) #[] #[.pointer (some ⟨ks, 0, none⟩)]] w fun e w' => e = .returned (.bool (!(ps.all fun p => p.may s))) ∧ Ext w w' := by
  have HE := Lib.hid hE
  have HP := Lib.hid hp
  have HB := Lib.hid hb
  clear hE hp hb
  go_enter Tryz.func30, Tryz.ntmps30
  go_wp2_with fail
  refine (pindex_any W w hT HE.out ks a ps s hs hl HP.out HB.out).mono ?_
  rintro e w2 ⟨⟨r, rfl, hr⟩, hE2⟩
  have HE2 := Lib.hid hE2
  have HR := Lib.hid hr
  clear hE2 hr
  go_wp2_with fail
  go_ret
  exact ⟨by rw [← HR.out]; rfl, HE2.out⟩
/-- the error's number -/
def chkI (s : Sd) : Int := if sdB s = true then 0 else 2
theorem check_any (W w : World) (hT : Tabs W) (hE : Ext W w) (s : Sd) (hs : OkS s) (hk : I64 s.kind) :
    Calls Tryz.prog 12 #[s.v] w fun e w' => e = .returned (.int .i64 (chkI s)) ∧ Ext w w' := by
  have HM := Lib.hid (Mem.start0 w)
  have HE := Lib.hid hE
  have HS := Lib.hid hs
  have HK := Lib.hid hk
  have hmf : ∀ (fn : Fn) (first cap : Array Value) (w : World), (Instr.makeFunc fn first cap).run Tryz.prog w = .ok (.func fn first cap) w := fun _ _ _ _ => rfl
  have HV := Lib.hid (show s.v = .agg s.cells.toArray from rfl)
  clear hE hs hk
  unfold Sd.v Sd.cells
  go_enter Tryz.func12, Tryz.ntmps12
  have fM := HM.out.fa
  go_wp2_with fail
  all_goals clear fM
  obtain ⟨ks, hks⟩ : ∃ k, w.heap.size = k := ⟨_, rfl⟩
  refine nxt HM fun w1 M => ?_
  clear HM; have HM := M; clear M
  rw [hks] at HM ⊢
  clear hks
  have fM := HM.out.fa
  have hE0 : Keeps NoB w1 w1.drew := (Keeps.refl _ _).drew
  refine wp_region_plan [(0, 1), (1, 2), (2, 0), (2, 3), (0, 4), (0, 5), (0, 6), (0, 7), (0, 8)] [2] [0, 3] [] (ClsE w1) (by kernel_rfl) (by kernel_rfl) (by kernel_rfl) rfl rfl (ClsE.of hE0) (fun _ _ _ d _ h => by cases d <;> exact h) ?_; simp only [planL, nL]
  refine pR (v := ?_) rfl (fun W => ?_) ?_; rotate_left; (go_simp <;> with_reducible rfl); simp only [nP]
  refine pL (v := ?_) rfl (fun W => ?_) ?_; rotate_left; (go_simp <;> with_reducible rfl); simp only [nP]
  refine plan_does rfl (fun K hK => ?_)
  go_wp2_with fail
  refine (kinds_any _).mono ?_
  rintro e w2 ⟨m, rfl, hU⟩
  obtain ⟨F2, u1, u2, u3⟩ := hU
  have hE2 := hE0.ext u2
  obtain ⟨v, hlk, hpv⟩ := kinds_look u1 s.kind HK.out true
  replace HM := Lib.hid (HM.out.new (r := partsR v ((partsOf s.kind).getD [])) (G := F2) hE2 hpv (fun k hk => (u3 k hk).elim (fun h => (noB _ h).elim) id))
  simp only [if_true] at hlk
  clear u1 u2 u3 hpv
  clear F2
  refine hK _ _ ⟨ClsE.of (by assumption), ?_⟩; clear hK K; try simp only [nP]
  refine plan_does rfl (fun K hK => ?_)
  go_wp2_with fail
  refine ⟨ClsE.of (by repeat (first | assumption | exact Keeps.refl _ _ | refine Keeps.alloc ?_ _ | refine Keeps.setOne ?_ _ _ | refine Keeps.setCell ?_ _ _ (.inl (by first | rfl | exact .inl rfl | exact .inr rfl | omega)) | refine Keeps.drew ?_)), ?_⟩; try simp only [nP]
  refine pM _ rfl rfl ?_; simp only [nP, nE]
  iterate 2 (refine pR (v := ?_) rfl (fun W => ?_) ?_; rotate_left; (go_simp <;> with_reducible rfl); simp only [nP])
  iterate 2 (refine pA _ rfl rfl ?_; simp only [nP, nE])
  refine plan_nil ?_; simp only [tailL, List.filterMap_nil]
  clear fM
  obtain ⟨ps, hps⟩ : ∃ ps, (partsOf s.kind).getD [] = ps := ⟨_, rfl⟩
  have hpl := partsOf_len s.kind
  rw [hps] at HM hpl
  have HPS := Lib.hid hps
  obtain ⟨Ahp, hp⟩ := HM.out.get (r := partsR v ps) (by with_reducible repeat first | exact ph | apply pt)
  obtain ⟨a, rfl⟩ := parts_len hp
  clear hE0 hE2 hp hlk hps
  have fM := HM.out.fa
  go_wp2_with fail
  all_goals clear fM
  obtain ⟨kr, hkr⟩ : ∃ k, w2.heap.size = k := ⟨_, rfl⟩
  refine nxt HM fun w3 M => ?_
  clear HM; have HM := M; clear M
  rw [hkr] at HM ⊢
  clear hkr
  have hs0 : Mem NoB w w3 [cellsR kr 27 ((ps.take 0).foldl (fun x p => p.clear x) s).cells, cellsR ks 27 s.cells, partsR (.slice a ps.length ps.length) ps] := Mem.sub HM.out (L' := [cellsR kr 27 s.cells, cellsR ks 27 s.cells, partsR (.slice a ps.length ps.length) ps]) (by repeat first | exact Sub.nil | refine Sub.cons (by with_reducible repeat first | exact ph | apply pt) ?_)
  replace HM := Lib.hid hs0
  clear hs0
  go_loopw [18] (fun i wr => ∃ j : Nat, j ≤ ps.length ∧ i = .int .i64 j ∧ Hid (Mem NoB w wr [cellsR kr 27 ((ps.take j).foldl (fun x p => p.clear x) s).cells, cellsR ks 27 s.cells, partsR (.slice a ps.length ps.length) ps])) (fun i _ => ps.length - (intOf i).toNat)
  case atStart => exact ⟨0, Nat.zero_le _, rfl, HM⟩
  case round =>
    clear HM
    obtain ⟨j, hj, rfl, HM⟩ := hrel
    by_cases hlt : j < ps.length
    · have g1 : (j : Int) < ps.length := by omega
      have g2 : ¬ (j : Int) < 0 := by omega
      obtain ⟨Ahp, hp⟩ := HM.out.get (r := partsR (.slice a ps.length ps.length) ps) (by with_reducible repeat first | exact ph | apply pt)
      obtain ⟨k, -, hat⟩ := parts_at' hp
      obtain ⟨q, rfl, hq, c0, c1, c2, c3⟩ := hat j hlt
      have HF := Lib.hid (foldl_take (fun x (p : Part) => p.clear x) s ps j hlt)
      obtain ⟨p, hpj⟩ : ∃ p, ps[j] = p := ⟨_, rfl⟩
      rw [hpj] at c0 c1 c2 c3 HF
      obtain ⟨x, hx⟩ : ∃ x, (ps.take j).foldl (fun x (p : Part) => p.clear x) s = x := ⟨_, rfl⟩
      rw [hx] at HF HM
      have hen := clear_enters p
      clear hp hat hpj hx
      have fM := HM.out.fa
      go_wp2_with fail
      all_goals clear fM
      refine nxt HM fun w4 M => ?_
      clear HM; have HM := M; clear M
      obtain ⟨C, hC, hS⟩ := (HM.out.pick (r := cellsR kr 27 x.cells) (by with_reducible repeat first | exact ph | apply pt)).step
      refine (clear_any w4 kr p x hC).mono ?_
      rintro e w5 ⟨rfl, hU⟩
      replace HM := Lib.hid (hS _ _ hU)
      clear hU hS hC C hen c0 c1 c2 c3
      go_wp2_with fail
      go_roundw
      case rel =>
        refine ⟨j + 1, by omega, by go_num, Lib.hid ?_⟩
        rw [HF.out]
        exact Mem.sub HM.out (by repeat first | exact Sub.nil | refine Sub.cons (by with_reducible repeat first | exact ph | apply pt) ?_)
      case measure => simp [intOf]; omega
    · obtain rfl : j = ps.length := by omega
      rw [List.take_length] at HM
      obtain ⟨x, hx⟩ : ∃ x, ps.foldl (fun x (p : Part) => p.clear x) s = x := ⟨_, rfl⟩
      rw [hx] at HM
      have HX := Lib.hid hx
      clear hx
      cases ho : partsOf s.kind with
      | none =>
        have hq : chkI s = 2 := by unfold chkI sdB; rw [ho]; rfl
        have HQ := Lib.hid hq
        simp only [Option.isSome_none]
        clear ho hq
        have fM := HM.out.fa
        go_wp2_with fail
        all_goals clear fM
        go_ret
        rw [HQ.out]
        exact ⟨rfl, HM.out.extTo⟩
      | some ps' =>
        obtain rfl : ps' = ps := by have := HPS.out; rw [ho] at this; exact this
        have hsb : sdB s = (decide (x = Sd.of s.kind) && ps'.all fun p => p.may s) := by unfold sdB; rw [ho]; dsimp only; rw [HX.out]
        have HSB := Lib.hid hsb
        simp only [Option.isSome_some]
        have HNE := Lib.hid (show ∀ W, (binOp .neq 27 (.agg #[.int .i64 x.kind, .int .i64 x.member, .int .i64 x.number, .int .i64 x.index, .bool x.is, .string (bs x.text), .string (bs x.token), .int .i64 x.e.kind, .int .i64 x.e.member, .int .i64 x.e.number, .string (bs x.e.text)]) (.agg #[.int .i64 s.kind, .int .i64 0, .int .i64 0, .int .i64 0, .bool false, .string ⟨#[]⟩, .string ⟨#[]⟩, .int .i64 0, .int .i64 0, .int .i64 0, .string ⟨#[]⟩])).run Tryz.prog W = .ok (.bool (!decide (x = Sd.of s.kind))) W from fun W => ne_sd x (Sd.of s.kind) W)
        clear hsb ho
        by_cases hx : x = Sd.of s.kind
        case neg =>
          have HQ := Lib.hid (show chkI s = 2 by unfold chkI; rw [HSB.out, decide_eq_false hx]; rfl)
          have hne := HNE.out
          rw [decide_eq_false hx, Bool.not_false] at hne
          clear hx
          have fM := HM.out.fa
          go_wp2_with fail
          all_goals clear fM
          go_ret
          rw [HQ.out]
          exact ⟨rfl, HM.out.extTo⟩
        have HXE := Lib.hid hx
        have hne := HNE.out
        rw [decide_eq_true hx, Bool.not_true] at hne
        clear hx
        have fM := HM.out.fa
        go_wp2_with fail
        all_goals clear fM
        clear hne
        obtain ⟨Ahp, hp⟩ := HM.out.get (r := partsR (.slice a ps'.length ps'.length) ps') (by with_reducible repeat first | exact ph | apply pt)
        obtain ⟨Ahb, hb⟩ := HM.out.get (r := cellsR ks 27 s.cells) (by with_reducible repeat first | exact ph | apply pt)
        refine (pcontains_any W wr hT (HE.out.ext HM.out.extTo) ks a ps' s HS.out hpl hp hb.2).mono ?_
        rintro e w2 ⟨rfl, hE2⟩
        replace HM := Lib.hid (HM.out.ext hE2)
        clear hE2 hp hb
        cases hal : ps'.all fun p => p.may s
        · have HQ := Lib.hid (show chkI s = 2 by unfold chkI; rw [HSB.out, hal, Bool.and_false]; rfl)
          clear hal
          simp only [Bool.not_false]
          go_wp2_with fail
          go_ret
          rw [HQ.out]
          exact ⟨rfl, HM.out.extTo⟩
        · have HQ := Lib.hid (show chkI s = 0 by unfold chkI; rw [HSB.out, hal, decide_eq_true HXE.out]; rfl)
          clear hal
          simp only [Bool.not_true]
          go_wp2_with fail
          go_ret
          rw [HQ.out]
          exact ⟨rfl, HM.out.extTo⟩
end Go.Proofs.YtcfgnbbiljohjaaGreatDoor
end
section
/- frames.Raw: the bytes of what is said, or that it may not be. Conditions: unicode/utf8's tables read as they are laid; what is said fits the machine. -/
set_option linter.unusedVariables false
set_option linter.unusedSimpArgs false
set_option maxHeartbeats 4000000
set_option maxRecDepth 10000
namespace Go.Proofs.YtcfgnbbiljohjaaGreatDoor
open Go.RowKit
theorem raw_bad (W w : World) (hT : Tabs W) (hE : Ext W w) (s : Sd) (hs : OkS s) (hk : I64 s.kind) (hb : sdB s = false) :
    Calls Tryz.prog 11 #[s.v] w fun e w' => e = .returned (.tuple #[.slice none 0 0, .int .i64 2]) ∧ Ext w w' := by
  have HM := Lib.hid (Mem.start0 w)
  have HE := Lib.hid hE
  have HC := Lib.hid (show chkI s = 2 by unfold chkI; rw [hb]; rfl)
  have HV := Lib.hid (show s.v = .agg #[.int .i64 s.kind, .int .i64 s.member, .int .i64 s.number, .int .i64 s.index, .bool s.is, .string (bs s.text), .string (bs s.token), .int .i64 s.e.kind, .int .i64 s.e.member, .int .i64 s.e.number, .string (bs s.e.text)] from rfl)
  rw [HV.out]
  clear hE hb
  go_enter Tryz.func11, Tryz.ntmps11
  have fM := HM.out.fa
  go_wp2_with fail
  all_goals clear fM
  refine nxt HM fun w1 M => ?_
  clear HM; have HM := M; clear M
  rw [← HV.out]
  refine (check_any W w1 hT (HE.out.ext HM.out.extTo) s hs hk).mono ?_
  rintro e w2 ⟨rfl, hE2⟩
  rw [HC.out]
  replace HM := Lib.hid (HM.out.ext hE2)
  clear hE2
  have fM := HM.out.fa
  go_wp2_with fail
  all_goals clear fM
  go_ret2
  exact ⟨rfl, HM.out.extTo⟩
theorem partsOf_kind {k : Int} {ps : List Part} (h : partsOf k = some ps) : 1 ≤ k ∧ k ≤ 12 := by
  by_cases hk : 1 ≤ k ∧ k ≤ 12
  · exact hk
  · exfalso
    unfold partsOf at h
    rw [if_neg (by omega), if_neg (by omega), if_neg (by omega), if_neg (by omega), if_neg (by omega), if_neg (by omega), if_neg (by omega), if_neg (by omega), if_neg (by omega), if_neg (by omega), if_neg (by omega), if_neg (by omega)] at h
    cases h
theorem partsOf_num {k n : Int} {ps : List Part} (h : partsOf k = some ps) (hm : Part.number n ∈ ps) : 0 ≤ n := by
  have hk := partsOf_kind h
  obtain rfl | rfl | rfl | rfl | rfl | rfl | rfl | rfl | rfl | rfl | rfl | rfl : k = 1 ∨ k = 2 ∨ k = 3 ∨ k = 4 ∨ k = 5 ∨ k = 6 ∨ k = 7 ∨ k = 8 ∨ k = 9 ∨ k = 10 ∨ k = 11 ∨ k = 12 := by omega
  all_goals
    simp [partsOf] at h
    subst h
    simp at hm
  all_goals omega
theorem raw_ok (W w : World) (hT : Tabs W) (hE : Ext W w) (s : Sd) (hs : OkS s) (hb : sdB s = true) :
    Calls Tryz.prog 11 #[s.v] w fun e w' => ∃ v, e = .returned (.tuple #[v, .int .i64 0]) ∧ Upd NoB w w' (bytR v (frameL (bodyL s))) := by
  obtain ⟨ps, hps, hall⟩ : ∃ ps, partsOf s.kind = some ps ∧ (ps.all fun p => p.may s) = true := by
    unfold sdB at hb
    cases hp : partsOf s.kind with
    | none => rw [hp] at hb; cases hb
    | some ps => rw [hp] at hb; dsimp only at hb; rw [Bool.and_eq_true] at hb; exact ⟨ps, rfl, hb.2⟩
  have hkk := partsOf_kind hps
  obtain ⟨kd, hkd⟩ : ∃ kd : Nat, s.kind = kd := ⟨s.kind.toNat, by omega⟩
  have HKD := Lib.hid (show s.kind = (kd : Int) ∧ kd ≤ 12 ∧ I64 s.kind from ⟨hkd, by omega, by unfold I64; omega⟩)
  have hbod : bodyL s = numL kd ++ (ps.map fun p => p.lay s).flatten := by unfold bodyL; rw [hps, hkd]; rfl
  have HBO := Lib.hid hbod
  have hpl := partsOf_len s.kind
  rw [hps] at hpl
  have HPL := Lib.hid (show ps.length ≤ 3 from hpl)
  have HPS := Lib.hid (show (partsOf s.kind).getD [] = ps by rw [hps]; rfl)
  have HNU := Lib.hid (fun n (hm : Part.number n ∈ ps) => partsOf_num hps hm)
  have HAL := Lib.hid (List.all_eq_true.1 hall)
  have HM := Lib.hid (Mem.start0 w)
  have HE := Lib.hid hE
  have HC := Lib.hid (show chkI s = 0 by unfold chkI; rw [hb]; rfl)
  have HV := Lib.hid (show s.v = .agg #[.int .i64 s.kind, .int .i64 s.member, .int .i64 s.number, .int .i64 s.index, .bool s.is, .string (bs s.text), .string (bs s.token), .int .i64 s.e.kind, .int .i64 s.e.member, .int .i64 s.e.number, .string (bs s.e.text)] from rfl)
  rw [HV.out]
  clear hE hb hps hall hkk hkd hbod hpl
  go_enter Tryz.func11, Tryz.ntmps11
  have fM := HM.out.fa
  go_wp2_with fail
  all_goals clear fM
  obtain ⟨ks, hks⟩ : ∃ k, w.heap.size = k := ⟨_, rfl⟩
  refine nxt HM fun w1 M => ?_
  clear HM; have HM := M; clear M
  rw [hks] at HM ⊢
  clear hks
  rw [← HV.out]
  refine (check_any W w1 hT (HE.out.ext HM.out.extTo) s hs HKD.out.2.2).mono ?_
  rintro e w2 ⟨rfl, hE2⟩
  rw [HC.out]
  replace HM := Lib.hid (HM.out.ext hE2)
  clear hE2
  rw [HV.out]
  have fM := HM.out.fa
  go_wp2_with fail
  all_goals clear fM
  refine nxt HM fun w2 M => ?_
  clear HM; have HM := M; clear M
  refine (writer_new w2).mono ?_
  rintro e w3 ⟨wb, rfl, hU⟩
  obtain ⟨F2, u1, u2, u3⟩ := hU
  replace HM := Lib.hid (HM.out.new (G := F2) u2 u1 (fun k hk => (u3 k hk).elim (fun h => (noB _ h).elim) id))
  clear u1 u2 u3 F2
  have fM := HM.out.fa
  go_wp2_with fail
  all_goals clear fM
  obtain ⟨q, hq⟩ : ∃ q, w3.heap.size = q := ⟨_, rfl⟩
  refine nxt HM fun w4 M => ?_
  clear HM; have HM := M; clear M
  rw [hq] at HM ⊢
  clear hq
  obtain ⟨C, hC, hn, hbx, hS⟩ := HM.out.apart1 (r := writerR wb []) (b := q) (cs := [.int .i64 s.kind]) (by with_reducible repeat first | exact ph | apply pt) (by with_reducible repeat first | exact ph | apply pt)
  rw [HKD.out.1] at hbx
  refine (wnumber_any w4 wb q [] [kd] (by simp) (by simp) hbx hn (by have := HKD.out.2.1; unfold topN; simp; omega) hC).mono ?_
  rintro e w5 ⟨rfl, hU⟩
  rw [numsL_one, List.nil_append] at hU
  replace HM := Lib.hid (hS _ _ hU)
  clear hC hn hbx hS hU C
  have fM := HM.out.fa
  go_wp2_with fail
  all_goals clear fM
  refine nxt HM fun w6 M => ?_
  clear HM; have HM := M; clear M
  have fM := HM.out.fa
  have hE0 : Keeps NoB w6 w6.drew := (Keeps.refl _ _).drew
  refine wp_region_plan [(0, 1), (1, 2), (0, 5), (2, 0)] [2] [0, 3, 4] [3, 4] (ClsE w6) (by kernel_rfl) (by kernel_rfl) (by kernel_rfl) rfl rfl (ClsE.of hE0) (fun _ _ _ d _ h => by cases d <;> exact h) ?_; simp only [planL, nL]
  refine pR (v := ?_) rfl (fun W => ?_) ?_; rotate_left; (go_simp <;> with_reducible rfl); simp only [nP]
  refine pL (v := ?_) rfl (fun W => ?_) ?_; rotate_left; (go_simp <;> with_reducible rfl); simp only [nP]
  refine pM _ rfl rfl ?_; simp only [nP, Act.eval]
  refine plan_does rfl (fun K hK => ?_)
  go_wp2_with fail
  refine (kinds_any _).mono ?_
  rintro e w7 ⟨m, rfl, hU⟩
  obtain ⟨F2, u1, u2, u3⟩ := hU
  have hE2 := hE0.ext u2
  obtain ⟨v, hlk, hpv⟩ := kinds_look u1 s.kind HKD.out.2.2 false
  replace HM := Lib.hid (HM.out.new (r := partsR v ((partsOf s.kind).getD [])) (G := F2) hE2 hpv (fun k hk => (u3 k hk).elim (fun h => (noB _ h).elim) id))
  simp only [Bool.false_eq_true, if_false] at hlk
  rw [HPS.out] at HM
  obtain ⟨a, rfl⟩ := (HM.out.fact fun A h => parts_len h)
  clear u1 u2 u3 hpv
  clear F2
  refine hK _ _ ⟨ClsE.of (by assumption), ?_⟩; clear hK K; try simp only [nP]
  refine plan_nil ?_; simp only [tailL, List.filterMap_cons, List.filterMap_nil, nL]; change wpList _ _ _ (_ :: _ :: []) _ _
  have fM := HM.out.fa
  go_wp2_with fail
  all_goals clear fM
  clear hlk hE2 hE0
  clear fM
  have hs0 : Mem NoB w w7 [writerR wb (numL kd ++ ((ps.take 0).map fun p => p.lay s).flatten), cellsR ks 27 s.cells, partsR (.slice a ps.length ps.length) ps] := by
    rw [List.take_zero, List.map_nil, List.flatten_nil, List.append_nil]
    exact Mem.sub HM.out (by repeat first | exact Sub.nil | refine Sub.cons (by with_reducible repeat first | exact ph | apply pt) ?_)
  replace HM := Lib.hid hs0
  clear hs0
  go_loopw [24] (fun i wr => ∃ j : Nat, j ≤ ps.length ∧ i = .int .i64 j ∧ Hid ((((ps.take j).map fun p => p.lay s).flatten).length ≤ j * 300) ∧ Hid (Mem NoB w wr [writerR wb (numL kd ++ ((ps.take j).map fun p => p.lay s).flatten), cellsR ks 27 s.cells, partsR (.slice a ps.length ps.length) ps])) (fun i _ => ps.length - (intOf i).toNat)
  case atStart => exact ⟨0, Nat.zero_le _, rfl, Lib.hid (by simp), HM⟩
  case round =>
    clear HM
    obtain ⟨j, hj, rfl, HLE, HM⟩ := hrel
    have hpl := HPL.out
    by_cases hlt : j < ps.length
    · have g1 : (j : Int) < ps.length := by omega
      have g2 : ¬ (j : Int) < 0 := by omega
      obtain ⟨Ahp, hp⟩ := HM.out.get (r := partsR (.slice a ps.length ps.length) ps) (by with_reducible repeat first | exact ph | apply pt)
      obtain ⟨k, -, hat⟩ := parts_at' hp
      obtain ⟨qq, rfl, hq, c0, c1, c2, c3⟩ := hat j hlt
      have HIN := Lib.hid (List.getElem_mem hlt)
      have HF := Lib.hid (show (((ps.take (j + 1)).map fun p => p.lay s).flatten) = ((ps.take j).map fun p => p.lay s).flatten ++ ps[j].lay s by rw [List.take_succ_eq_append_getElem hlt, List.map_append, List.flatten_append]; simp)
      obtain ⟨p, hpj⟩ : ∃ p, ps[j] = p := ⟨_, rfl⟩
      rw [hpj] at c0 c1 c2 c3 HF HIN
      obtain ⟨l, hl⟩ : ∃ l, ((ps.take j).map fun p => p.lay s).flatten = l := ⟨_, rfl⟩
      rw [hl] at HF HM HLE
      have hen := lay_enters p
      clear hp hat hpj hl
      unfold Sd.cells at HM
      have fM := HM.out.fa
      go_wp2_with fail
      all_goals clear fM
      refine nxt HM fun w8 M => ?_
      clear HM; have HM := M; clear M
      rw [← HV.out]
      obtain ⟨C, hC, hS⟩ := (HM.out.pick (r := writerR wb (numL kd ++ l)) (by with_reducible repeat first | exact ph | apply pt)).step
      have hll := numL_len kd
      refine (lay_any w8 wb (numL kd ++ l) p s (by rw [List.length_append]; have := HLE.out; omega) (HAL.out p HIN.out) (fun n hn => HNU.out n (by rw [← hn]; exact HIN.out)) hC).mono ?_
      rintro e w9 ⟨rfl, hU⟩
      rw [HV.out]
      replace HM := Lib.hid (hS _ _ hU)
      clear hU hS hC C hen c0 c1 c2 c3 hll
      go_wp2_with fail
      go_roundw
      case rel =>
        refine ⟨j + 1, by omega, by go_num, Lib.hid ?_, Lib.hid ?_⟩
        · have := Part.lay_len p s (HAL.out p HIN.out)
          rw [HF.out, List.length_append]; have := HLE.out; omega
        · rw [HF.out, ← List.append_assoc]
          exact Mem.sub HM.out (by repeat first | exact Sub.nil | refine Sub.cons (by with_reducible repeat first | exact ph | apply pt) ?_)
      case measure => simp [intOf]; omega
    · obtain rfl : j = ps.length := by omega
      rw [List.take_length] at HM HLE
      rw [← HBO.out] at HM
      have HBL := Lib.hid (show (bodyL s).length ≤ 1000 by rw [HBO.out, List.length_append]; have := HLE.out; have := numL_len kd; omega)
      go_wp2_with fail
      obtain ⟨Ahwb, hwb⟩ := HM.out.get (r := writerR wb (bodyL s)) (by with_reducible repeat first | exact ph | apply pt)
      refine (wall_any wr wb (bodyL s) (by have := HBL.out; omega) hwb).mono ?_
      rintro e w8 ⟨v1, rfl, hw1, hE8⟩
      have hb1 := hw1.bytes
      replace HM := Lib.hid (HM.out.ext hE8)
      clear hwb
      go_wp2_with fail
      refine (frame_any w8 v1 (bodyL s) hb1 (fun k hk => hk.2) (by have := HBL.out; omega)).mono ?_
      rintro e w9 ⟨v2, rfl, hU⟩
      obtain ⟨F2, u1, u2, u3⟩ := hU
      replace HM := Lib.hid (HM.out.new (G := F2) u2 u1 (fun k hk => (u3 k hk).elim (fun h => (noB _ h).elim) id))
      clear u1 u2 u3 hb1 hw1 hE8
      clear F2
      go_wp2_with fail
      go_ret2
      exact ⟨_, rfl, (HM.out.pick (r := bytR v2 (frameL (bodyL s))) (by with_reducible repeat first | exact ph | apply pt)).upd⟩
end Go.Proofs.YtcfgnbbiljohjaaGreatDoor
end
