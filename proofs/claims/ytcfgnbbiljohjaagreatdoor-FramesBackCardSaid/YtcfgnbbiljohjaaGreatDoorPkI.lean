/- Texts PartD, PartE, PartF, SaidEq, one behind the other. Conditions: as each says. -/
import Derived.Test.YtcfgnbbiljohjaaGreatDoorPkH
import Derived.Test.YtcfgnbbiljohjaaGreatDoorCards
section
/- The parts of what is said: laid. Conditions: the writer lies as 'writerR' says; the part may be said. -/
set_option linter.unusedVariables false
set_option linter.unusedSimpArgs false
set_option maxHeartbeats 2000000
set_option maxRecDepth 10000
namespace Go.Proofs.YtcfgnbbiljohjaaGreatDoor
open Go.RowKit
def layF : Part → Nat
  | .member => 88
  | .number _ => 99
  | .index => 108
  | .is => 112
  | .said => 104
  | .token => 92
  | .entry => 119
def LayC (A : Nat → Prop) (w : World) (b : Nat) (l : List UInt8) (p : Part) (s : Sd) : Prop :=
  Calls Tryz.prog (layF p) #[.pointer (some ⟨b, 0, none⟩), s.v] w fun e w' => e = .returned (.tuple #[]) ∧ Upd A w w' (writerR b (l ++ p.lay s))
theorem intsV_one (n : Nat) : intsV [n] = [.int .i64 (n : Int)] := rfl
theorem intsV_two (n m : Nat) : intsV [n, m] = [.int .i64 (n : Int), .int .i64 (m : Int)] := rfl
theorem numsL_one (n : Nat) : numsL [n] = numL n := by simp [numsL]
theorem numsL_two (n m : Nat) : numsL [n, m] = numL n ++ numL m := by simp [numsL]
theorem Mem.apart1 {F : Nat → Prop} {w0 w : World} {L L1 L2 : List Res} {r : Res} {b : Nat} {t : TypeId} {cs : List Value} (h : Mem F w0 w L) (p : Pick L r L1) (p1 : Pick L1 (cellsR b t cs) L2) :
    ∃ C, r.p C w ∧ ¬ C b ∧ Box w b t cs ∧ ∀ (r' : Res) (w' : World), Upd C w w' r' → Mem F w0 w' (r' :: L1) := by
  obtain ⟨C, hC, hn, -, hS⟩ := h.apart2 p p1 p1
  obtain ⟨B, hB⟩ := (h.pick p).get (.there p1)
  exact ⟨C, hC, hn, hB.2, hS⟩
theorem lay_member {A : Nat → Prop} (w : World) (b : Nat) (l : List UInt8) (n : Int) (s : Sd) (hl : l.length ≤ 1073741000) (h0 : 0 ≤ s.member) (h1 : s.member ≤ 2147483647) (h : (writerR b l).p A w) : LayC A w b l .member s := by
  have HM := Lib.hid (Mem.start h)
  obtain ⟨x, hx⟩ : ∃ x : Nat, s.member = x := ⟨s.member.toNat, by omega⟩
  have HX := Lib.hid (show x ≤ topN by unfold topN; omega)
  have HP := Lib.hid (show Part.lay .member s = numL x by show numL s.member.toNat = _; rw [hx]; rfl)
  unfold LayC
  rw [HP.out]
  unfold Sd.v Sd.cells
  rw [hx]
  clear h h0 h1 hx HP
  show Calls _ 88 _ _ _
  go_enter Tryz.func88, Tryz.ntmps88
  have fM := HM.out.fa
  go_wp2_with fail
  all_goals clear fM
  obtain ⟨q, hq⟩ : ∃ q, w.heap.size + 1 = q := ⟨_, rfl⟩
  refine nxt HM fun w1 M => ?_
  clear HM; have HM := M; clear M
  rw [hq] at HM ⊢
  clear hq
  obtain ⟨C, hC, hn, hb, hS⟩ := HM.out.apart1 (r := writerR b l) (b := q) (cs := [.int .i64 (x : Int)]) (by with_reducible repeat first | exact ph | apply pt) (by with_reducible repeat first | exact ph | apply pt)
  refine (wnumber_any w1 b q l [x] (by omega) (by simp) hb hn (by simpa using HX.out) hC).mono ?_
  rintro e w2 ⟨rfl, hU⟩
  rw [numsL_one] at hU
  replace HM := Lib.hid (hS _ _ hU)
  clear hC hn hb hS hU C
  go_wp2_with fail
  go_end0
  exact ⟨rfl, (HM.out.pick (r := writerR b (l ++ numL x)) (by with_reducible repeat first | exact ph | apply pt)).upd⟩
theorem lay_number {A : Nat → Prop} (w : World) (b : Nat) (l : List UInt8) (n : Int) (s : Sd) (hl : l.length ≤ 1073741000) (h0 : 0 ≤ s.number) (h1 : s.number ≤ 2147483647) (h : (writerR b l).p A w) : LayC A w b l (.number n) s := by
  have HM := Lib.hid (Mem.start h)
  obtain ⟨x, hx⟩ : ∃ x : Nat, s.number = x := ⟨s.number.toNat, by omega⟩
  have HX := Lib.hid (show x ≤ topN by unfold topN; omega)
  have HP := Lib.hid (show Part.lay (.number n) s = numL x by show numL s.number.toNat = _; rw [hx]; rfl)
  unfold LayC
  rw [HP.out]
  unfold Sd.v Sd.cells
  rw [hx]
  clear h h0 h1 hx HP
  show Calls _ 99 _ _ _
  go_enter Tryz.func99, Tryz.ntmps99
  have fM := HM.out.fa
  go_wp2_with fail
  all_goals clear fM
  obtain ⟨q, hq⟩ : ∃ q, w.heap.size + 1 = q := ⟨_, rfl⟩
  refine nxt HM fun w1 M => ?_
  clear HM; have HM := M; clear M
  rw [hq] at HM ⊢
  clear hq
  obtain ⟨C, hC, hn, hb, hS⟩ := HM.out.apart1 (r := writerR b l) (b := q) (cs := [.int .i64 (x : Int)]) (by with_reducible repeat first | exact ph | apply pt) (by with_reducible repeat first | exact ph | apply pt)
  refine (wnumber_any w1 b q l [x] (by omega) (by simp) hb hn (by simpa using HX.out) hC).mono ?_
  rintro e w2 ⟨rfl, hU⟩
  rw [numsL_one] at hU
  replace HM := Lib.hid (hS _ _ hU)
  clear hC hn hb hS hU C
  go_wp2_with fail
  go_end0
  exact ⟨rfl, (HM.out.pick (r := writerR b (l ++ numL x)) (by with_reducible repeat first | exact ph | apply pt)).upd⟩
theorem lay_index {A : Nat → Prop} (w : World) (b : Nat) (l : List UInt8) (n : Int) (s : Sd) (hl : l.length ≤ 1073741000) (h0 : 0 ≤ s.index) (h1 : s.index ≤ 2147483647) (h : (writerR b l).p A w) : LayC A w b l .index s := by
  have HM := Lib.hid (Mem.start h)
  obtain ⟨x, hx⟩ : ∃ x : Nat, s.index = x := ⟨s.index.toNat, by omega⟩
  have HX := Lib.hid (show x ≤ topN by unfold topN; omega)
  have HP := Lib.hid (show Part.lay .index s = numL x by show numL s.index.toNat = _; rw [hx]; rfl)
  unfold LayC
  rw [HP.out]
  unfold Sd.v Sd.cells
  rw [hx]
  clear h h0 h1 hx HP
  show Calls _ 108 _ _ _
  go_enter Tryz.func108, Tryz.ntmps108
  have fM := HM.out.fa
  go_wp2_with fail
  all_goals clear fM
  obtain ⟨q, hq⟩ : ∃ q, w.heap.size + 1 = q := ⟨_, rfl⟩
  refine nxt HM fun w1 M => ?_
  clear HM; have HM := M; clear M
  rw [hq] at HM ⊢
  clear hq
  obtain ⟨C, hC, hn, hb, hS⟩ := HM.out.apart1 (r := writerR b l) (b := q) (cs := [.int .i64 (x : Int)]) (by with_reducible repeat first | exact ph | apply pt) (by with_reducible repeat first | exact ph | apply pt)
  refine (wnumber_any w1 b q l [x] (by omega) (by simp) hb hn (by simpa using HX.out) hC).mono ?_
  rintro e w2 ⟨rfl, hU⟩
  rw [numsL_one] at hU
  replace HM := Lib.hid (hS _ _ hU)
  clear hC hn hb hS hU C
  go_wp2_with fail
  go_end0
  exact ⟨rfl, (HM.out.pick (r := writerR b (l ++ numL x)) (by with_reducible repeat first | exact ph | apply pt)).upd⟩
theorem lay_is {A : Nat → Prop} (w : World) (b : Nat) (l : List UInt8) (s : Sd) (hl : l.length ≤ 1073741000) (h : (writerR b l).p A w) : LayC A w b l .is s := by
  have HM := Lib.hid (Mem.start h)
  have HP := Lib.hid (show Part.lay .is s = truL s.is from rfl)
  unfold LayC
  rw [HP.out]
  unfold Sd.v Sd.cells
  clear h HP
  show Calls _ 112 _ _ _
  go_enter Tryz.func112, Tryz.ntmps112
  have fM := HM.out.fa
  go_wp2_with fail
  all_goals clear fM
  refine nxt HM fun w1 M => ?_
  clear HM; have HM := M; clear M
  obtain ⟨C, hC, hS⟩ := (HM.out.pick (r := writerR b l) (by with_reducible repeat first | exact ph | apply pt)).step
  refine (wtruth_any w1 b l s.is (by omega) hC).mono ?_
  rintro e w2 ⟨rfl, hU⟩
  replace HM := Lib.hid (hS _ _ hU)
  clear hC hS hU C
  go_wp2_with fail
  go_end0
  exact ⟨rfl, (HM.out.pick (r := writerR b (l ++ truL s.is)) (by with_reducible repeat first | exact ph | apply pt)).upd⟩
theorem lay_said {A : Nat → Prop} (w : World) (b : Nat) (l : List UInt8) (s : Sd) (hl : l.length ≤ 1073741000) (hs : s.text.length ≤ 200) (h : (writerR b l).p A w) : LayC A w b l .said s := by
  have HM := Lib.hid (Mem.start h)
  have HP := Lib.hid (show Part.lay .said s = txtL s.text from rfl)
  unfold LayC
  rw [HP.out]
  unfold Sd.v Sd.cells
  clear h HP
  show Calls _ 104 _ _ _
  go_enter Tryz.func104, Tryz.ntmps104
  have fM := HM.out.fa
  go_wp2_with fail
  all_goals clear fM
  refine nxt HM fun w1 M => ?_
  clear HM; have HM := M; clear M
  obtain ⟨C, hC, hS⟩ := (HM.out.pick (r := writerR b l) (by with_reducible repeat first | exact ph | apply pt)).step
  refine (wtext_any w1 b l s.text (by omega) (by omega) hC).mono ?_
  rintro e w2 ⟨rfl, hU⟩
  replace HM := Lib.hid (hS _ _ hU)
  clear hC hS hU C
  go_wp2_with fail
  go_end0
  exact ⟨rfl, (HM.out.pick (r := writerR b (l ++ txtL s.text)) (by with_reducible repeat first | exact ph | apply pt)).upd⟩
theorem lay_token {A : Nat → Prop} (w : World) (b : Nat) (l : List UInt8) (s : Sd) (hl : l.length ≤ 1073741000) (hs : s.token.length ≤ 200) (h : (writerR b l).p A w) : LayC A w b l .token s := by
  have HM := Lib.hid (Mem.start h)
  have HP := Lib.hid (show Part.lay .token s = txtL s.token from rfl)
  unfold LayC
  rw [HP.out]
  unfold Sd.v Sd.cells
  clear h HP
  show Calls _ 92 _ _ _
  go_enter Tryz.func92, Tryz.ntmps92
  have fM := HM.out.fa
  go_wp2_with fail
  all_goals clear fM
  refine nxt HM fun w1 M => ?_
  clear HM; have HM := M; clear M
  obtain ⟨C, hC, hS⟩ := (HM.out.pick (r := writerR b l) (by with_reducible repeat first | exact ph | apply pt)).step
  refine (wtext_any w1 b l s.token (by omega) (by omega) hC).mono ?_
  rintro e w2 ⟨rfl, hU⟩
  replace HM := Lib.hid (hS _ _ hU)
  clear hC hS hU C
  go_wp2_with fail
  go_end0
  exact ⟨rfl, (HM.out.pick (r := writerR b (l ++ txtL s.token)) (by with_reducible repeat first | exact ph | apply pt)).upd⟩
theorem lay_entry {A : Nat → Prop} (w : World) (b : Nat) (l : List UInt8) (s : Sd) (hl : l.length ≤ 1073740000) (h1 : 0 ≤ s.e.kind ∧ s.e.kind ≤ 4) (h2 : 0 ≤ s.e.member ∧ s.e.member ≤ 15) (h3 : s.e.kind = 4 → 0 ≤ s.e.number ∧ s.e.number ≤ 2147483647 ∧ s.e.text.length ≤ 200) (h : (writerR b l).p A w) : LayC A w b l .entry s := by
  have HM := Lib.hid (Mem.start h)
  obtain ⟨x, hx⟩ : ∃ x : Nat, s.e.kind = x := ⟨s.e.kind.toNat, by omega⟩
  obtain ⟨y, hy⟩ : ∃ y : Nat, s.e.member = y := ⟨s.e.member.toNat, by omega⟩
  have HX := Lib.hid (show ∀ n ∈ [x, y], n ≤ topN by
    intro n hn
    simp at hn
    unfold topN
    rcases hn with rfl | rfl <;> omega)
  have HL := Lib.hid (show (numL x).length ≤ 10 ∧ (numL y).length ≤ 10 from ⟨(numL_len x).2, (numL_len y).2⟩)
  have HP0 := Lib.hid (show Part.lay .entry s = numL x ++ numL y ++ (if s.e.kind = 4 then numL s.e.number.toNat ++ txtL s.e.text else []) by show numL s.e.kind.toNat ++ numL s.e.member.toNat ++ _ = _; rw [hx, hy]; rfl)
  unfold LayC
  show Calls _ 119 _ _ _
  by_cases h4 : s.e.kind = 4
  · obtain ⟨z, hz⟩ : ∃ z : Nat, s.e.number = z := ⟨s.e.number.toNat, by have := h3 h4; omega⟩
    have HZ := Lib.hid (show z ≤ topN ∧ s.e.text.length ≤ 200 by have := h3 h4; unfold topN; omega)
    have HP := Lib.hid (show Part.lay .entry s = (numL x ++ numL y) ++ (numL z ++ txtL s.e.text) by rw [HP0.out, if_pos h4, hz]; rfl)
    have HX4 := Lib.hid (show (x : Int) = 4 by omega)
    rw [HP.out]
    unfold Sd.v Sd.cells
    rw [hx, hy, hz]
    clear h h1 h2 h3 hx hy hz h4 HP HP0
    go_enter Tryz.func119, Tryz.ntmps119
    have fM := HM.out.fa
    go_wp2_with fail
    all_goals clear fM
    obtain ⟨q, hq⟩ : ∃ q, w.heap.size + 1 + 1 = q := ⟨_, rfl⟩
    refine nxt HM fun w1 M => ?_
    clear HM; have HM := M; clear M
    rw [hq] at HM ⊢
    clear hq
    obtain ⟨C, hC, hn, hb, hS⟩ := HM.out.apart1 (r := writerR b l) (b := q) (cs := [.int .i64 (x : Int), .int .i64 (y : Int)]) (by with_reducible repeat first | exact ph | apply pt) (by with_reducible repeat first | exact ph | apply pt)
    refine (wnumber_any w1 b q l [x, y] (by omega) (by simp) hb hn HX.out hC).mono ?_
    rintro e w2 ⟨rfl, hU⟩
    rw [numsL_two] at hU
    replace HM := Lib.hid (hS _ _ hU)
    clear hC hn hb hS hU C
    obtain ⟨l2, hl2⟩ : ∃ l2, l ++ (numL x ++ numL y) = l2 := ⟨_, rfl⟩
    have HL2 := Lib.hid (show l2 = l ++ (numL x ++ numL y) ∧ l2.length ≤ 1073741000 from ⟨hl2.symm, by rw [← hl2, List.length_append, List.length_append]; have := HL.out; omega⟩)
    rw [hl2] at HM
    clear hl2
    have hx4 := HX4.out
    have fM := HM.out.fa
    go_wp2_with fail
    all_goals clear fM
    clear hx4
    obtain ⟨q2, hq2⟩ : ∃ q, w2.heap.size = q := ⟨_, rfl⟩
    refine nxt HM fun w3 M => ?_
    clear HM; have HM := M; clear M
    rw [hq2] at HM ⊢
    clear hq2
    obtain ⟨C, hC, hn, hb, hS⟩ := HM.out.apart1 (r := writerR b l2) (b := q2) (cs := [.int .i64 (z : Int)]) (by with_reducible repeat first | exact ph | apply pt) (by with_reducible repeat first | exact ph | apply pt)
    refine (wnumber_any w3 b q2 l2 [z] (by have := HL2.out; omega) (by simp) hb hn (by simpa using HZ.out.1) hC).mono ?_
    rintro e w4 ⟨rfl, hU⟩
    rw [numsL_one] at hU
    replace HM := Lib.hid (hS _ _ hU)
    clear hC hn hb hS hU C
    have fM := HM.out.fa
    go_wp2_with fail
    all_goals clear fM
    refine nxt HM fun w5 M => ?_
    clear HM; have HM := M; clear M
    obtain ⟨C, hC, hS⟩ := (HM.out.pick (r := writerR b (l2 ++ numL z)) (by with_reducible repeat first | exact ph | apply pt)).step
    refine (wtext_any w5 b (l2 ++ numL z) s.e.text (by have := HL2.out; have := numL_len z; rw [List.length_append]; omega) (by have := HZ.out; omega) hC).mono ?_
    rintro e w6 ⟨rfl, hU⟩
    replace HM := Lib.hid (hS _ _ hU)
    clear hC hS hU C
    go_wp2_with fail
    go_end0
    rw [show l ++ (numL x ++ numL y ++ (numL z ++ txtL s.e.text)) = l2 ++ numL z ++ txtL s.e.text by rw [HL2.out.1]; simp]
    exact ⟨rfl, (HM.out.pick (r := writerR b (l2 ++ numL z ++ txtL s.e.text)) (by with_reducible repeat first | exact ph | apply pt)).upd⟩
  · have HP := Lib.hid (show Part.lay .entry s = (numL x ++ numL y) by rw [HP0.out, if_neg h4, List.append_nil])
    have HX4 := Lib.hid (show ¬ (x : Int) = 4 by omega)
    rw [HP.out]
    unfold Sd.v Sd.cells
    rw [hx, hy]
    clear h h1 h2 h3 hx hy h4 HP HP0
    go_enter Tryz.func119, Tryz.ntmps119
    have fM := HM.out.fa
    go_wp2_with fail
    all_goals clear fM
    obtain ⟨q, hq⟩ : ∃ q, w.heap.size + 1 + 1 = q := ⟨_, rfl⟩
    refine nxt HM fun w1 M => ?_
    clear HM; have HM := M; clear M
    rw [hq] at HM ⊢
    clear hq
    obtain ⟨C, hC, hn, hb, hS⟩ := HM.out.apart1 (r := writerR b l) (b := q) (cs := [.int .i64 (x : Int), .int .i64 (y : Int)]) (by with_reducible repeat first | exact ph | apply pt) (by with_reducible repeat first | exact ph | apply pt)
    refine (wnumber_any w1 b q l [x, y] (by omega) (by simp) hb hn HX.out hC).mono ?_
    rintro e w2 ⟨rfl, hU⟩
    rw [numsL_two] at hU
    replace HM := Lib.hid (hS _ _ hU)
    clear hC hn hb hS hU C
    have hx4 := HX4.out
    have fM := HM.out.fa
    go_wp2_with fail
    all_goals clear fM
    go_end0
    exact ⟨rfl, (HM.out.pick (r := writerR b (l ++ (numL x ++ numL y))) (by with_reducible repeat first | exact ph | apply pt)).upd⟩
theorem chk_200 {l : List UInt8} (h : chk l = 0) : l.length ≤ 200 := by
  rcases Nat.lt_or_ge 200 l.length with h1 | h1
  · unfold chk at h; rw [if_pos h1] at h; cases h
  · exact h1
theorem Part.lay_len (p : Part) (s : Sd) (hm : p.may s = true) : (p.lay s).length ≤ 300 := by
  cases p <;> unfold Part.lay <;> unfold Part.may at hm <;> dsimp only at hm ⊢
  · have := (numL_len s.member.toNat).2; omega
  · have := (numL_len s.number.toNat).2; omega
  · have := (numL_len s.index.toNat).2; omega
  · simp [truL]
  · have h := chk_200 (l := s.text) (by simpa using hm)
    have := (numL_len s.text.length).2
    unfold txtL; rw [List.length_append]; omega
  · have h := of_decide_eq_true hm
    have := (numL_len s.token.length).2
    unfold txtL; rw [List.length_append]; omega
  · rw [Bool.and_eq_true] at hm
    have g1 := (numL_len s.e.kind.toNat).2
    have g2 := (numL_len s.e.member.toNat).2
    have g3 := (numL_len s.e.number.toNat).2
    have g4 := (numL_len s.e.text.length).2
    rw [List.length_append, List.length_append]
    split
    · rename_i h4
      have h5 := hm.2
      unfold enB at h5
      rw [if_neg (by omega), if_neg (by omega), if_pos h4] at h5
      unfold sayB at h5
      simp only [Bool.and_eq_true] at h5
      have h6 := chk_200 (l := s.e.text) (by simpa using h5.2)
      unfold txtL; rw [List.length_append, List.length_append]; omega
    · simp only [List.length_nil]; omega
theorem enB_bounds {e : En} (hk : e.kind ≠ 1) (h : enB e = true) : (0 ≤ e.kind ∧ e.kind ≤ 4) ∧ (0 ≤ e.member ∧ e.member ≤ 15) ∧ (e.kind = 4 → 0 ≤ e.number ∧ e.number ≤ 2147483647 ∧ e.text.length ≤ 200) := by
  unfold enB at h
  rw [if_neg hk] at h
  split at h
  · rename_i h2
    rw [Bool.and_eq_true] at h
    have h3 := h.1
    unfold memB at h3
    simp only [Bool.and_eq_true, decide_eq_true_eq] at h3
    exact ⟨by omega, by omega, fun h => by omega⟩
  · split at h
    · rename_i h4
      unfold sayB at h
      simp only [Bool.and_eq_true, decide_eq_true_eq] at h
      have h3 := h.1.1.1
      unfold memB at h3
      simp only [Bool.and_eq_true, decide_eq_true_eq] at h3
      have h6 := chk_200 (l := e.text) (by simpa using h.2)
      exact ⟨by omega, by omega, fun _ => ⟨by omega, by omega, h6⟩⟩
    · cases h
theorem lay_any {A : Nat → Prop} (w : World) (b : Nat) (l : List UInt8) (p : Part) (s : Sd) (hl : l.length ≤ 1073740000) (hm : p.may s = true) (hp : ∀ n, p = .number n → 0 ≤ n) (h : (writerR b l).p A w) : LayC A w b l p s := by
  cases p <;> unfold Part.may at hm <;> dsimp only at hm
  · have := of_decide_eq_true hm
    exact lay_member w b l 0 s (by omega) (by omega) (by omega) h
  · rename_i n
    have := of_decide_eq_true hm
    have := hp n rfl
    exact lay_number w b l n s (by omega) (by omega) (by omega) h
  · have := of_decide_eq_true hm
    exact lay_index w b l 0 s (by omega) (by omega) (by omega) h
  · exact lay_is w b l s (by omega) h
  · exact lay_said w b l s (by omega) (chk_200 (by simpa using hm)) h
  · exact lay_token w b l s (by omega) (of_decide_eq_true hm) h
  · rw [Bool.and_eq_true] at hm
    obtain ⟨h1, h2, h3⟩ := enB_bounds (of_decide_eq_true hm.1) hm.2
    exact lay_entry w b l s hl h1 h2 h3 h
end Go.Proofs.YtcfgnbbiljohjaaGreatDoor
end
section
/- The parts of what is said: taken off a reader. Conditions: it lies as 'readerR' says, what is said in a block known whole. -/
set_option linter.unusedVariables false
set_option linter.unusedSimpArgs false
set_option maxHeartbeats 2000000
set_option maxRecDepth 10000
namespace Go.Proofs.YtcfgnbbiljohjaaGreatDoor
open Go.RowKit
def saidE : Ending := .panicked [{ v := .iface 31 (.int .i64 340), recovered := false }]
theorem fmust_any (w : World) (x : Bool) : Calls Tryz.prog 39 #[.bool x] w fun e w' => e = (if x then .returned (.tuple #[]) else saidE) ∧ w' = w := by
  cases x
  · go_enter Tryz.func39, Tryz.ntmps39
    go_wp2_with fail
    exact ⟨rfl, rfl, rfl⟩
  · go_enter Tryz.func39, Tryz.ntmps39
    go_wp2_with fail
    go_end0
    exact ⟨rfl, rfl⟩
abbrev rdV (b : Nat) : Value := .agg #[.pointer (some ⟨b, 0, none⟩)]
theorem fnum_any {A : Nat → Prop} (w : World) (b : Nat) (r : Rdr) (g : Int) (hg : 0 ≤ g) (hl : r.b.length ≤ 70368744177664) (h : (readerR b r).p A w) :
    Calls Tryz.prog 38 #[rdV b, .int .i64 g] w fun e w' => e = (if (r.num g).1.e = 0 then .returned (.int .i64 ((r.num g).2.1 : Int)) else saidE) ∧ Upd A w w' (readerR b (r.num g).1) := by
  have hno := r.num_e' g hg
  obtain ⟨⟨r1, n, no⟩, hq⟩ : ∃ q, r.num g = q := ⟨_, rfl⟩
  have HQ := Lib.hid hq
  rw [hq] at hno ⊢
  dsimp only at hno ⊢
  clear hq
  have HM := Lib.hid (Mem.start h)
  have HLL := Lib.hid hl
  clear h hl
  go_enter Tryz.func38, Tryz.ntmps38
  have fM := HM.out.fa
  go_wp2_with fail
  all_goals clear fM
  refine nxt HM fun w1 M => ?_
  clear HM; have HM := M; clear M
  obtain ⟨C, hC, hS⟩ := (HM.out.pick (r := readerR b r) (by with_reducible repeat first | exact ph | apply pt)).step
  refine (rnumber_any w1 b g r HLL.out hC).mono ?_
  rintro e w2 ⟨rfl, hU⟩
  replace HM := Lib.hid (hS _ _ hU)
  rw [HQ.out] at HM ⊢
  dsimp only at HM ⊢
  clear hU hS hC C
  by_cases he : no = 0
  · have he2 : r1.e = 0 := by rw [← hno]; exact he
    have HE2 := Lib.hid he2
    subst he
    clear hno he2
    have fM := HM.out.fa
    go_wp2_with fail
    all_goals clear fM
    refine (fmust_any _ _).mono ?_
    rintro e w' ⟨rfl, hwq⟩
    rw [hwq]
    clear hwq w'
    simp only [if_true]
    go_wp2_with fail
    go_ret
    try rw [if_pos HE2.out]
    exact ⟨rfl, (HM.out.pick (r := readerR b r1) (by with_reducible repeat first | exact ph | apply pt)).upd⟩
  · have he2 : ¬ r1.e = 0 := by rw [← hno]; exact he
    have HE2 := Lib.hid he2
    have he3 : (no == 0) = false := by simpa using he
    clear hno he2 he
    have fM := HM.out.fa
    go_wp2_with fail
    all_goals clear fM
    refine (fmust_any _ _).mono ?_
    rintro e w' ⟨rfl, hwq⟩
    rw [hwq]
    clear hwq w'
    simp only [Bool.false_eq_true, if_false, saidE]
    go_wp2_with fail
    try rw [if_neg HE2.out]
    exact ⟨rfl, rfl, (HM.out.pick (r := readerR b r1) (by with_reducible repeat first | exact ph | apply pt)).upd⟩
theorem ftxt_any {A : Nat → Prop} (w : World) (b : Nat) (r : Rdr) (g : Int) (hg : 0 ≤ g) (hl : r.b.length ≤ 70368744177664) (h : (readerR b r).p A w) :
    Calls Tryz.prog 95 #[rdV b, .int .i64 g] w fun e w' => e = (if (r.txt g).1.e = 0 then .returned (.string (bs (r.txt g).2.1)) else saidE) ∧ Upd A w w' (readerR b (r.txt g).1) := by
  have hno := r.txt_e' g hg
  obtain ⟨⟨r1, n, no⟩, hq⟩ : ∃ q, r.txt g = q := ⟨_, rfl⟩
  have HQ := Lib.hid hq
  rw [hq] at hno ⊢
  dsimp only at hno ⊢
  clear hq
  have HM := Lib.hid (Mem.start h)
  have HLL := Lib.hid hl
  clear h hl
  go_enter Tryz.func95, Tryz.ntmps95
  have fM := HM.out.fa
  go_wp2_with fail
  all_goals clear fM
  refine nxt HM fun w1 M => ?_
  clear HM; have HM := M; clear M
  obtain ⟨C, hC, hS⟩ := (HM.out.pick (r := readerR b r) (by with_reducible repeat first | exact ph | apply pt)).step
  refine (rtext_any w1 b g r HLL.out hC).mono ?_
  rintro e w2 ⟨rfl, hU⟩
  replace HM := Lib.hid (hS _ _ hU)
  rw [HQ.out] at HM ⊢
  dsimp only at HM ⊢
  clear hU hS hC C
  by_cases he : no = 0
  · have he2 : r1.e = 0 := by rw [← hno]; exact he
    have HE2 := Lib.hid he2
    subst he
    clear hno he2
    have fM := HM.out.fa
    go_wp2_with fail
    all_goals clear fM
    refine (fmust_any _ _).mono ?_
    rintro e w' ⟨rfl, hwq⟩
    rw [hwq]
    clear hwq w'
    simp only [if_true]
    go_wp2_with fail
    go_ret
    try rw [if_pos HE2.out]
    exact ⟨rfl, (HM.out.pick (r := readerR b r1) (by with_reducible repeat first | exact ph | apply pt)).upd⟩
  · have he2 : ¬ r1.e = 0 := by rw [← hno]; exact he
    have HE2 := Lib.hid he2
    have he3 : (no == 0) = false := by simpa using he
    clear hno he2 he
    have fM := HM.out.fa
    go_wp2_with fail
    all_goals clear fM
    refine (fmust_any _ _).mono ?_
    rintro e w' ⟨rfl, hwq⟩
    rw [hwq]
    clear hwq w'
    simp only [Bool.false_eq_true, if_false, saidE]
    go_wp2_with fail
    try rw [if_neg HE2.out]
    exact ⟨rfl, rfl, (HM.out.pick (r := readerR b r1) (by with_reducible repeat first | exact ph | apply pt)).upd⟩
def takeF : Part → Nat
  | .member => 89
  | .number _ => 100
  | .index => 109
  | .is => 114
  | .said => 105
  | .token => 94
  | .entry => 120
/-- what taking a part off a reader comes to -/
def TakeP (A : Nat → Prop) (w : World) (b sb : Nat) (p : Part) (r : Rdr) (s : Sd) (e : Ending) (w' : World) : Prop :=
  e = (if (p.take r s).1.e = 0 then .returned (.tuple #[]) else saidE) ∧ ∃ s' : Sd, ((p.take r s).1.e = 0 → s' = (p.take r s).2) ∧ Upd A w w' (listR [readerR b (p.take r s).1, cellsR sb 27 s'.cells])
theorem take_member {A : Nat → Prop} (w : World) (b sb : Nat) (n : Int) (r : Rdr) (s : Sd) (hl : r.b.length ≤ 70368744177664) (h : SepL [readerR b r, cellsR sb 27 s.cells] A w) :
    Calls Tryz.prog 89 #[rdV b, .pointer (some ⟨sb, 0, none⟩)] w (TakeP A w b sb .member r s) := by
  obtain ⟨⟨r1, x, no⟩, hq⟩ : ∃ q, r.num 15 = q := ⟨_, rfl⟩
  have HQ := Lib.hid hq
  have HP := Lib.hid (show Part.take .member r s = (r1, { s with member := x }) by show ((r.num 15).1, { s with member := (r.num 15).2.1 }) = _; rw [hq])
  clear hq
  have HM := Lib.hid (Mem.start (F := A) (r := listR [readerR b r, cellsR sb 27 s.cells]) h).unlist
  simp only [List.cons_append, List.nil_append] at HM
  have HLL := Lib.hid hl
  unfold Sd.cells at HM
  clear h hl
  go_enter Tryz.func89, Tryz.ntmps89
  have fM := HM.out.fa
  go_wp2_with fail
  all_goals clear fM
  refine nxt HM fun w1 M => ?_
  clear HM; have HM := M; clear M
  obtain ⟨C, hC, hS⟩ := (HM.out.pick (r := readerR b r) (by with_reducible repeat first | exact ph | apply pt)).step
  refine (fnum_any w1 b r 15 (by decide) HLL.out hC).mono ?_
  rintro e w2 ⟨rfl, hU⟩
  replace HM := Lib.hid (hS _ _ hU)
  rw [HQ.out] at HM ⊢
  dsimp only at HM ⊢
  clear hU hS hC C
  by_cases he : r1.e = 0
  · rw [if_pos he]
    have HE := Lib.hid he
    clear he
    have fM := HM.out.fa
    go_wp2_with fail
    all_goals clear fM
    go_end0
    unfold TakeP
    rw [HP.out]
    dsimp only
    rw [if_pos HE.out]
    refine ⟨rfl, { s with member := x }, fun _ => rfl, ?_⟩
    refine nxt HM fun w3 M => ?_
    clear HM; have HM := M; clear M
    exact (Mem.list' (L1 := [readerR b r1, cellsR sb 27 ({ s with member := x } : Sd).cells]) (L := []) (Mem.sub HM.out (by repeat first | exact Sub.nil | refine Sub.cons (by with_reducible repeat first | exact ph | apply pt) ?_))).upd
  · rw [if_neg he]
    have HE := Lib.hid he
    clear he
    unfold saidE
    go_wp2_with fail
    refine ⟨rfl, ?_⟩
    unfold TakeP
    rw [HP.out]
    dsimp only
    rw [if_neg HE.out]
    exact ⟨rfl, s, fun h => absurd h HE.out, (Mem.list' (L1 := [readerR b r1, cellsR sb 27 s.cells]) (L := []) (Mem.sub HM.out (by repeat first | exact Sub.nil | refine Sub.cons (by with_reducible repeat first | exact ph | apply pt) ?_))).upd⟩
theorem take_number {A : Nat → Prop} (w : World) (b sb : Nat) (n : Int) (r : Rdr) (s : Sd) (hl : r.b.length ≤ 70368744177664) (h : SepL [readerR b r, cellsR sb 27 s.cells] A w) :
    Calls Tryz.prog 100 #[rdV b, .pointer (some ⟨sb, 0, none⟩)] w (TakeP A w b sb (.number n) r s) := by
  obtain ⟨⟨r1, x, no⟩, hq⟩ : ∃ q, r.num 2147483647 = q := ⟨_, rfl⟩
  have HQ := Lib.hid hq
  have HP := Lib.hid (show Part.take (.number n) r s = (r1, { s with number := x }) by show ((r.num 2147483647).1, { s with number := (r.num 2147483647).2.1 }) = _; rw [hq])
  clear hq
  have HM := Lib.hid (Mem.start (F := A) (r := listR [readerR b r, cellsR sb 27 s.cells]) h).unlist
  simp only [List.cons_append, List.nil_append] at HM
  have HLL := Lib.hid hl
  unfold Sd.cells at HM
  clear h hl
  go_enter Tryz.func100, Tryz.ntmps100
  have fM := HM.out.fa
  go_wp2_with fail
  all_goals clear fM
  refine nxt HM fun w1 M => ?_
  clear HM; have HM := M; clear M
  obtain ⟨C, hC, hS⟩ := (HM.out.pick (r := readerR b r) (by with_reducible repeat first | exact ph | apply pt)).step
  refine (fnum_any w1 b r 2147483647 (by decide) HLL.out hC).mono ?_
  rintro e w2 ⟨rfl, hU⟩
  replace HM := Lib.hid (hS _ _ hU)
  rw [HQ.out] at HM ⊢
  dsimp only at HM ⊢
  clear hU hS hC C
  by_cases he : r1.e = 0
  · rw [if_pos he]
    have HE := Lib.hid he
    clear he
    have fM := HM.out.fa
    go_wp2_with fail
    all_goals clear fM
    go_end0
    unfold TakeP
    rw [HP.out]
    dsimp only
    rw [if_pos HE.out]
    refine ⟨rfl, { s with number := x }, fun _ => rfl, ?_⟩
    refine nxt HM fun w3 M => ?_
    clear HM; have HM := M; clear M
    exact (Mem.list' (L1 := [readerR b r1, cellsR sb 27 ({ s with number := x } : Sd).cells]) (L := []) (Mem.sub HM.out (by repeat first | exact Sub.nil | refine Sub.cons (by with_reducible repeat first | exact ph | apply pt) ?_))).upd
  · rw [if_neg he]
    have HE := Lib.hid he
    clear he
    unfold saidE
    go_wp2_with fail
    refine ⟨rfl, ?_⟩
    unfold TakeP
    rw [HP.out]
    dsimp only
    rw [if_neg HE.out]
    exact ⟨rfl, s, fun h => absurd h HE.out, (Mem.list' (L1 := [readerR b r1, cellsR sb 27 s.cells]) (L := []) (Mem.sub HM.out (by repeat first | exact Sub.nil | refine Sub.cons (by with_reducible repeat first | exact ph | apply pt) ?_))).upd⟩
theorem take_index {A : Nat → Prop} (w : World) (b sb : Nat) (n : Int) (r : Rdr) (s : Sd) (hl : r.b.length ≤ 70368744177664) (h : SepL [readerR b r, cellsR sb 27 s.cells] A w) :
    Calls Tryz.prog 109 #[rdV b, .pointer (some ⟨sb, 0, none⟩)] w (TakeP A w b sb .index r s) := by
  obtain ⟨⟨r1, x, no⟩, hq⟩ : ∃ q, r.num 2147483647 = q := ⟨_, rfl⟩
  have HQ := Lib.hid hq
  have HP := Lib.hid (show Part.take .index r s = (r1, { s with index := x }) by show ((r.num 2147483647).1, { s with index := (r.num 2147483647).2.1 }) = _; rw [hq])
  clear hq
  have HM := Lib.hid (Mem.start (F := A) (r := listR [readerR b r, cellsR sb 27 s.cells]) h).unlist
  simp only [List.cons_append, List.nil_append] at HM
  have HLL := Lib.hid hl
  unfold Sd.cells at HM
  clear h hl
  go_enter Tryz.func109, Tryz.ntmps109
  have fM := HM.out.fa
  go_wp2_with fail
  all_goals clear fM
  refine nxt HM fun w1 M => ?_
  clear HM; have HM := M; clear M
  obtain ⟨C, hC, hS⟩ := (HM.out.pick (r := readerR b r) (by with_reducible repeat first | exact ph | apply pt)).step
  refine (fnum_any w1 b r 2147483647 (by decide) HLL.out hC).mono ?_
  rintro e w2 ⟨rfl, hU⟩
  replace HM := Lib.hid (hS _ _ hU)
  rw [HQ.out] at HM ⊢
  dsimp only at HM ⊢
  clear hU hS hC C
  by_cases he : r1.e = 0
  · rw [if_pos he]
    have HE := Lib.hid he
    clear he
    have fM := HM.out.fa
    go_wp2_with fail
    all_goals clear fM
    go_end0
    unfold TakeP
    rw [HP.out]
    dsimp only
    rw [if_pos HE.out]
    refine ⟨rfl, { s with index := x }, fun _ => rfl, ?_⟩
    refine nxt HM fun w3 M => ?_
    clear HM; have HM := M; clear M
    exact (Mem.list' (L1 := [readerR b r1, cellsR sb 27 ({ s with index := x } : Sd).cells]) (L := []) (Mem.sub HM.out (by repeat first | exact Sub.nil | refine Sub.cons (by with_reducible repeat first | exact ph | apply pt) ?_))).upd
  · rw [if_neg he]
    have HE := Lib.hid he
    clear he
    unfold saidE
    go_wp2_with fail
    refine ⟨rfl, ?_⟩
    unfold TakeP
    rw [HP.out]
    dsimp only
    rw [if_neg HE.out]
    exact ⟨rfl, s, fun h => absurd h HE.out, (Mem.list' (L1 := [readerR b r1, cellsR sb 27 s.cells]) (L := []) (Mem.sub HM.out (by repeat first | exact Sub.nil | refine Sub.cons (by with_reducible repeat first | exact ph | apply pt) ?_))).upd⟩
theorem take_said {A : Nat → Prop} (w : World) (b sb : Nat) (n : Int) (r : Rdr) (s : Sd) (hl : r.b.length ≤ 70368744177664) (h : SepL [readerR b r, cellsR sb 27 s.cells] A w) :
    Calls Tryz.prog 105 #[rdV b, .pointer (some ⟨sb, 0, none⟩)] w (TakeP A w b sb .said r s) := by
  obtain ⟨⟨r1, x, no⟩, hq⟩ : ∃ q, r.txt 200 = q := ⟨_, rfl⟩
  have HQ := Lib.hid hq
  have HP := Lib.hid (show Part.take .said r s = (r1, { s with text := x }) by show ((r.txt 200).1, { s with text := (r.txt 200).2.1 }) = _; rw [hq])
  clear hq
  have HM := Lib.hid (Mem.start (F := A) (r := listR [readerR b r, cellsR sb 27 s.cells]) h).unlist
  simp only [List.cons_append, List.nil_append] at HM
  have HLL := Lib.hid hl
  unfold Sd.cells at HM
  clear h hl
  go_enter Tryz.func105, Tryz.ntmps105
  have fM := HM.out.fa
  go_wp2_with fail
  all_goals clear fM
  refine nxt HM fun w1 M => ?_
  clear HM; have HM := M; clear M
  obtain ⟨C, hC, hS⟩ := (HM.out.pick (r := readerR b r) (by with_reducible repeat first | exact ph | apply pt)).step
  refine (ftxt_any w1 b r 200 (by decide) HLL.out hC).mono ?_
  rintro e w2 ⟨rfl, hU⟩
  replace HM := Lib.hid (hS _ _ hU)
  rw [HQ.out] at HM ⊢
  dsimp only at HM ⊢
  clear hU hS hC C
  by_cases he : r1.e = 0
  · rw [if_pos he]
    have HE := Lib.hid he
    clear he
    have fM := HM.out.fa
    go_wp2_with fail
    all_goals clear fM
    go_end0
    unfold TakeP
    rw [HP.out]
    dsimp only
    rw [if_pos HE.out]
    refine ⟨rfl, { s with text := x }, fun _ => rfl, ?_⟩
    refine nxt HM fun w3 M => ?_
    clear HM; have HM := M; clear M
    exact (Mem.list' (L1 := [readerR b r1, cellsR sb 27 ({ s with text := x } : Sd).cells]) (L := []) (Mem.sub HM.out (by repeat first | exact Sub.nil | refine Sub.cons (by with_reducible repeat first | exact ph | apply pt) ?_))).upd
  · rw [if_neg he]
    have HE := Lib.hid he
    clear he
    unfold saidE
    go_wp2_with fail
    refine ⟨rfl, ?_⟩
    unfold TakeP
    rw [HP.out]
    dsimp only
    rw [if_neg HE.out]
    exact ⟨rfl, s, fun h => absurd h HE.out, (Mem.list' (L1 := [readerR b r1, cellsR sb 27 s.cells]) (L := []) (Mem.sub HM.out (by repeat first | exact Sub.nil | refine Sub.cons (by with_reducible repeat first | exact ph | apply pt) ?_))).upd⟩
theorem take_token {A : Nat → Prop} (w : World) (b sb : Nat) (n : Int) (r : Rdr) (s : Sd) (hl : r.b.length ≤ 70368744177664) (h : SepL [readerR b r, cellsR sb 27 s.cells] A w) :
    Calls Tryz.prog 94 #[rdV b, .pointer (some ⟨sb, 0, none⟩)] w (TakeP A w b sb .token r s) := by
  obtain ⟨⟨r1, x, no⟩, hq⟩ : ∃ q, r.txt 200 = q := ⟨_, rfl⟩
  have HQ := Lib.hid hq
  have HP := Lib.hid (show Part.take .token r s = (r1, { s with token := x }) by show ((r.txt 200).1, { s with token := (r.txt 200).2.1 }) = _; rw [hq])
  clear hq
  have HM := Lib.hid (Mem.start (F := A) (r := listR [readerR b r, cellsR sb 27 s.cells]) h).unlist
  simp only [List.cons_append, List.nil_append] at HM
  have HLL := Lib.hid hl
  unfold Sd.cells at HM
  clear h hl
  go_enter Tryz.func94, Tryz.ntmps94
  have fM := HM.out.fa
  go_wp2_with fail
  all_goals clear fM
  refine nxt HM fun w1 M => ?_
  clear HM; have HM := M; clear M
  obtain ⟨C, hC, hS⟩ := (HM.out.pick (r := readerR b r) (by with_reducible repeat first | exact ph | apply pt)).step
  refine (ftxt_any w1 b r 200 (by decide) HLL.out hC).mono ?_
  rintro e w2 ⟨rfl, hU⟩
  replace HM := Lib.hid (hS _ _ hU)
  rw [HQ.out] at HM ⊢
  dsimp only at HM ⊢
  clear hU hS hC C
  by_cases he : r1.e = 0
  · rw [if_pos he]
    have HE := Lib.hid he
    clear he
    have fM := HM.out.fa
    go_wp2_with fail
    all_goals clear fM
    go_end0
    unfold TakeP
    rw [HP.out]
    dsimp only
    rw [if_pos HE.out]
    refine ⟨rfl, { s with token := x }, fun _ => rfl, ?_⟩
    refine nxt HM fun w3 M => ?_
    clear HM; have HM := M; clear M
    exact (Mem.list' (L1 := [readerR b r1, cellsR sb 27 ({ s with token := x } : Sd).cells]) (L := []) (Mem.sub HM.out (by repeat first | exact Sub.nil | refine Sub.cons (by with_reducible repeat first | exact ph | apply pt) ?_))).upd
  · rw [if_neg he]
    have HE := Lib.hid he
    clear he
    unfold saidE
    go_wp2_with fail
    refine ⟨rfl, ?_⟩
    unfold TakeP
    rw [HP.out]
    dsimp only
    rw [if_neg HE.out]
    exact ⟨rfl, s, fun h => absurd h HE.out, (Mem.list' (L1 := [readerR b r1, cellsR sb 27 s.cells]) (L := []) (Mem.sub HM.out (by repeat first | exact Sub.nil | refine Sub.cons (by with_reducible repeat first | exact ph | apply pt) ?_))).upd⟩
theorem take_is {A : Nat → Prop} (w : World) (b sb : Nat) (r : Rdr) (s : Sd) (hl : r.b.length ≤ 70368744177664) (h : SepL [readerR b r, cellsR sb 27 s.cells] A w) :
    Calls Tryz.prog 114 #[rdV b, .pointer (some ⟨sb, 0, none⟩)] w (TakeP A w b sb .is r s) := by
  have hno := r.tru_e'
  obtain ⟨⟨r1, x, no⟩, hq⟩ : ∃ q, r.tru = q := ⟨_, rfl⟩
  have HQ := Lib.hid hq
  have HP := Lib.hid (show Part.take .is r s = (r1, { s with is := x }) by show (r.tru.1, { s with is := r.tru.2.1 }) = _; rw [hq])
  rw [hq] at hno
  dsimp only at hno
  clear hq
  have HM := Lib.hid (Mem.start (F := A) (r := listR [readerR b r, cellsR sb 27 s.cells]) h).unlist
  simp only [List.cons_append, List.nil_append] at HM
  have HLL := Lib.hid hl
  unfold Sd.cells at HM
  clear h hl
  go_enter Tryz.func114, Tryz.ntmps114
  have fM := HM.out.fa
  go_wp2_with fail
  all_goals clear fM
  refine nxt HM fun w1 M => ?_
  clear HM; have HM := M; clear M
  obtain ⟨C, hC, hS⟩ := (HM.out.pick (r := readerR b r) (by with_reducible repeat first | exact ph | apply pt)).step
  refine (rtruth_any w1 b r HLL.out hC).mono ?_
  rintro e w2 ⟨rfl, hU⟩
  replace HM := Lib.hid (hS _ _ hU)
  rw [HQ.out] at HM ⊢
  dsimp only at HM ⊢
  clear hU hS hC C
  by_cases he : no = 0
  · have HE := Lib.hid (show r1.e = 0 by rw [← hno]; exact he)
    subst he
    clear hno
    have fM := HM.out.fa
    go_wp2_with fail
    all_goals clear fM
    refine (fmust_any _ _).mono ?_
    rintro e w' ⟨rfl, hwq⟩
    rw [hwq]
    clear hwq w'
    simp only [if_true]
    have fM := HM.out.fa
    go_wp2_with fail
    all_goals clear fM
    go_end0
    unfold TakeP
    rw [HP.out]
    dsimp only
    rw [if_pos HE.out]
    refine ⟨rfl, { s with is := x }, fun _ => rfl, ?_⟩
    refine nxt HM fun w3 M => ?_
    clear HM; have HM := M; clear M
    exact (Mem.list' (L1 := [readerR b r1, cellsR sb 27 ({ s with is := x } : Sd).cells]) (L := []) (Mem.sub HM.out (by repeat first | exact Sub.nil | refine Sub.cons (by with_reducible repeat first | exact ph | apply pt) ?_))).upd
  · have HE := Lib.hid (show ¬ r1.e = 0 by rw [← hno]; exact he)
    have he3 : (no == 0) = false := by simpa using he
    clear hno he
    have fM := HM.out.fa
    go_wp2_with fail
    all_goals clear fM
    refine (fmust_any _ _).mono ?_
    rintro e w' ⟨rfl, hwq⟩
    rw [hwq]
    clear hwq w'
    simp only [Bool.false_eq_true, if_false]
    unfold saidE
    go_wp2_with fail
    refine ⟨rfl, ?_⟩
    unfold TakeP
    rw [HP.out]
    dsimp only
    rw [if_neg HE.out]
    exact ⟨rfl, s, fun h => absurd h HE.out, (Mem.list' (L1 := [readerR b r1, cellsR sb 27 s.cells]) (L := []) (Mem.sub HM.out (by repeat first | exact Sub.nil | refine Sub.cons (by with_reducible repeat first | exact ph | apply pt) ?_))).upd⟩
end Go.Proofs.YtcfgnbbiljohjaaGreatDoor
end
section
/- The parts of what is said: an entry taken off a reader; any part. Conditions: it lies as 'readerR' says, what is said in a block known whole. -/
set_option linter.unusedVariables false
set_option linter.unusedSimpArgs false
set_option maxHeartbeats 4000000
set_option maxRecDepth 10000
namespace Go.Proofs.YtcfgnbbiljohjaaGreatDoor
open Go.RowKit
/-- a call behind which the reader and what is said lie anew -/
theorem take_entry {A : Nat → Prop} (w : World) (b sb : Nat) (r : Rdr) (s : Sd) (hl : r.b.length ≤ 70368744177664) (h : SepL [readerR b r, cellsR sb 27 s.cells] A w) :
    Calls Tryz.prog 120 #[rdV b, .pointer (some ⟨sb, 0, none⟩)] w (TakeP A w b sb .entry r s) := by
  obtain ⟨⟨r1, x1, no1⟩, hq1⟩ : ∃ q, r.num 4 = q := ⟨_, rfl⟩
  obtain ⟨⟨r2, x2, no2⟩, hq2⟩ : ∃ q, r1.num 15 = q := ⟨_, rfl⟩
  obtain ⟨⟨r3, x3, no3⟩, hq3⟩ : ∃ q, r2.num 2147483647 = q := ⟨_, rfl⟩
  obtain ⟨⟨r4, x4, no4⟩, hq4⟩ : ∃ q, r3.txt 200 = q := ⟨_, rfl⟩
  have hp : Part.take .entry r s = if x1 = 4 then (r4, { s with e := ⟨x1, x2, x3, x4⟩ }) else (r2, { s with e := ⟨x1, x2, s.e.number, s.e.text⟩ }) := by
    show (if (r.num 4).2.1 = 4 then _ else _) = _
    rw [hq1]; dsimp only
    rw [hq2]; dsimp only
    rw [hq3]; dsimp only
    rw [hq4]
  have hl1 : r1.b.length ≤ r.b.length := by have := r.num_len 4; rwa [hq1] at this
  have hl2 : r2.b.length ≤ r1.b.length := by have := r1.num_len 15; rwa [hq2] at this
  have hl3 : r3.b.length ≤ r2.b.length := by have := r2.num_len 2147483647; rwa [hq3] at this
  have HQ := Lib.hid (show _ ∧ _ ∧ _ ∧ _ from ⟨hq1, hq2, hq3, hq4⟩)
  have HLN := Lib.hid (show r.b.length ≤ 70368744177664 ∧ r1.b.length ≤ 70368744177664 ∧ r2.b.length ≤ 70368744177664 ∧ r3.b.length ≤ 70368744177664 by omega)
  have s12 : r1.e ≠ 0 → r2 = r1 := fun h => by have := r1.num_err 15 h; rw [hq2] at this; exact congrArg Prod.fst this
  have s23 : r2.e ≠ 0 → r3 = r2 := fun h => by have := r2.num_err 2147483647 h; rw [hq3] at this; exact congrArg Prod.fst this
  have s34 : r3.e ≠ 0 → r4 = r3 := fun h => by have := Rdr.txt_sticky 200 h; have h2 := r3.num_err 200 h; have : r3.txt 200 = (r3, [], r3.e) := by (unfold Rdr.txt; rw [h2]; exact if_pos h)
                                               rw [hq4] at this; exact congrArg Prod.fst this
  clear hq1 hq2 hq3 hq4 hl1 hl2 hl3
  have HM := Lib.hid (Mem.start (F := A) (r := listR [readerR b r, cellsR sb 27 s.cells]) h).unlist
  simp only [List.cons_append, List.nil_append] at HM
  have HLL := Lib.hid hl
  unfold Sd.cells at HM
  clear h hl
  show Calls _ 120 _ _ _
  go_enter Tryz.func120, Tryz.ntmps120
  have fM := HM.out.fa
  go_wp2_with fail
  all_goals clear fM
  obtain ⟨kb, hkb⟩ : ∃ k, w.heap.size = k := ⟨_, rfl⟩
  refine nxt HM fun w1 M => ?_
  clear HM; have HM := M; clear M
  rw [hkb] at HM ⊢
  clear hkb
  obtain ⟨C, hC, hn1, hn2, hS⟩ := HM.out.apart2 (r := readerR b r) (b1 := kb) (b2 := sb) (by with_reducible repeat first | exact ph | apply pt) (by with_reducible repeat first | exact ph | apply pt) (by with_reducible repeat first | exact ph | apply pt)
  by_cases e1 : r1.e = 0
  case neg =>
    have hp' : Part.take .entry r s = (r1, (Part.take .entry r s).2) := by
      have h2 := s12 e1
      subst h2
      have h3 := s23 e1
      subst h3
      have h4 := s34 e1
      subst h4
      rw [hp]; split <;> rfl
    obtain ⟨s9, hs9⟩ : ∃ s9, (Part.take .entry r s).2 = s9 := ⟨_, rfl⟩
    rw [hs9] at hp'
    have HP := Lib.hid hp'
    have HE := Lib.hid e1
    clear hp hp' hs9 e1 s12 s23 s34
    have fM := HM.out.fa
    have hE0 : Keeps (C) w1 w1.drew := (Keeps.refl _ _).drew
    refine wp_region_plan [(0, 0), (0, 1), (3, 2), (1, 4), (2, 3)] [4] [3, 5, 6, 7, 8, 9, 10, 11] [5, 6, 7, 8, 9, 10, 11] (ClsK (C) w1) (by kernel_rfl) (by kernel_rfl) (by kernel_rfl) rfl rfl (ClsK.of hE0) (fun _ _ _ d _ h => by cases d <;> exact h) ?_; simp only [planL, nL]
    iterate 2 (refine pM _ rfl rfl ?_; simp only [nP, nE])
    refine pX (v := ?_) rfl ?_ ?_; rotate_left; (go_simp <;> with_reducible rfl); simp only [nP]
    refine pK (v := ?_) rfl (fun W => ?_) ?_; rotate_left; (go_simp <;> with_reducible rfl); simp only [nP]
    refine plan_does rfl (fun K hK => ?_)
    go_wp2_with fail
    refine (fnum_any _ b r 4 (by decide) HLN.out.1 (Res.keeps _ hC (Ext.drew0 w1) (fun _ _ => noB _))).mono ?_
    rintro e w2 ⟨rfl, hU⟩
    rw [HQ.out.1] at hU ⊢
    dsimp only at hU ⊢
    rw [if_neg HE.out]
    unfold saidE
    refine ⟨rfl, ?_⟩
    replace HM := Lib.hid (hS _ _ (hU.pre (Ext.drew0 w1)))
    clear hK K hE0 hU hS hC hn1 hn2 fM
    unfold TakeP
    rw [HP.out]
    dsimp only
    rw [if_neg HE.out]
    exact ⟨rfl, s, fun h => absurd h HE.out, (Mem.list' (L1 := [readerR b r1, cellsR sb 27 (s : Sd).cells]) (L := []) (Mem.sub HM.out (by repeat first | exact Sub.nil | refine Sub.cons (by with_reducible repeat first | exact ph | apply pt) ?_))).upd⟩
  have HE1 := Lib.hid e1
  clear e1 s12
  by_cases e2 : r2.e = 0
  case neg =>
    have hp' : Part.take .entry r s = (r2, (Part.take .entry r s).2) := by
      have h3 := s23 e2
      subst h3
      have h4 := s34 e2
      subst h4
      rw [hp]; split <;> rfl
    obtain ⟨s9, hs9⟩ : ∃ s9, (Part.take .entry r s).2 = s9 := ⟨_, rfl⟩
    rw [hs9] at hp'
    have HP := Lib.hid hp'
    have HE := Lib.hid e2
    clear hp hp' hs9 e2 s23 s34
    have fM := HM.out.fa
    have hE0 : Keeps (C) w1 w1.drew := (Keeps.refl _ _).drew
    refine wp_region_plan [(0, 0), (0, 1), (3, 2), (1, 4), (2, 3)] [4] [3, 5, 6, 7, 8, 9, 10, 11] [5, 6, 7, 8, 9, 10, 11] (ClsK (C) w1) (by kernel_rfl) (by kernel_rfl) (by kernel_rfl) rfl rfl (ClsK.of hE0) (fun _ _ _ d _ h => by cases d <;> exact h) ?_; simp only [planL, nL]
    iterate 2 (refine pM _ rfl rfl ?_; simp only [nP, nE])
    refine pX (v := ?_) rfl ?_ ?_; rotate_left; (go_simp <;> with_reducible rfl); simp only [nP]
    refine pK (v := ?_) rfl (fun W => ?_) ?_; rotate_left; (go_simp <;> with_reducible rfl); simp only [nP]
    refine plan_does rfl (fun K hK => ?_)
    go_wp2_with fail
    refine (fnum_any _ b r 4 (by decide) HLN.out.1 (Res.keeps _ hC (Ext.drew0 w1) (fun _ _ => noB _))).mono ?_
    rintro e w2 ⟨rfl, hU⟩
    rw [HQ.out.1] at hU ⊢
    dsimp only at hU ⊢
    rw [if_pos HE1.out]
    have hU2 := hU.pre (Ext.drew0 w1)
    have hE1 := hU2.keepsTo
    clear hU
    refine hK _ _ ⟨ClsK.of (by assumption), ?_⟩; clear hK K; try simp only [nP]
    refine plan_nil ?_; simp only [tailL, List.filterMap_cons, List.filterMap_nil, nL]; change wpList _ _ _ (_ :: _ :: _ :: _ :: _ :: _ :: _ :: []) _ _
    clear fM
    replace HM := Lib.hid (hS _ _ hU2)
    clear hU2 hE1 hE0 hS hC hn1 hn2
    have fM := HM.out.fa
    go_wp2_with fail
    all_goals clear fM
    obtain ⟨C2, hC2, hS2⟩ := (HM.out.pick (r := readerR b r1) (by with_reducible repeat first | exact ph | apply pt)).step
    refine (fnum_any _ b r1 15 (by decide) HLN.out.2.1 hC2).mono ?_
    rintro e w3 ⟨rfl, hU⟩
    rw [HQ.out.2.1] at hU ⊢
    dsimp only at hU ⊢
    replace HM := Lib.hid (hS2 _ _ hU)
    clear hU hC2 hS2
    clear C2
    rw [if_neg HE.out]
    unfold saidE
    go_wp2_with fail
    refine ⟨rfl, ?_⟩
    unfold TakeP
    rw [HP.out]
    dsimp only
    rw [if_neg HE.out]
    exact ⟨rfl, s, fun h => absurd h HE.out, (Mem.list' (L1 := [readerR b r2, cellsR sb 27 (s : Sd).cells]) (L := []) (Mem.sub HM.out (by repeat first | exact Sub.nil | refine Sub.cons (by with_reducible repeat first | exact ph | apply pt) ?_))).upd⟩
  have HE2 := Lib.hid e2
  clear e2 s23
  by_cases hx : x1 = 4
  case neg =>
    have HP := Lib.hid (show Part.take .entry r s = (r2, { s with e := ⟨x1, x2, s.e.number, s.e.text⟩ }) by rw [hp, if_neg hx])
    have hx' : ¬ (x1 : Int) = 4 := by omega
    clear hp s34 hx
    have fM := HM.out.fa
    have hE0 : Keeps (C) w1 w1.drew := (Keeps.refl _ _).drew
    refine wp_region_plan [(0, 0), (0, 1), (3, 2), (1, 4), (2, 3)] [4] [3, 5, 6, 7, 8, 9, 10, 11] [5, 6, 7, 8, 9, 10, 11] (ClsK (C) w1) (by kernel_rfl) (by kernel_rfl) (by kernel_rfl) rfl rfl (ClsK.of hE0) (fun _ _ _ d _ h => by cases d <;> exact h) ?_; simp only [planL, nL]
    iterate 2 (refine pM _ rfl rfl ?_; simp only [nP, nE])
    refine pX (v := ?_) rfl ?_ ?_; rotate_left; (go_simp <;> with_reducible rfl); simp only [nP]
    refine pK (v := ?_) rfl (fun W => ?_) ?_; rotate_left; (go_simp <;> with_reducible rfl); simp only [nP]
    refine plan_does rfl (fun K hK => ?_)
    go_wp2_with fail
    refine (fnum_any _ b r 4 (by decide) HLN.out.1 (Res.keeps _ hC (Ext.drew0 w1) (fun _ _ => noB _))).mono ?_
    rintro e w2 ⟨rfl, hU⟩
    rw [HQ.out.1] at hU ⊢
    dsimp only at hU ⊢
    rw [if_pos HE1.out]
    have hU2 := hU.pre (Ext.drew0 w1)
    have hE1 := hU2.keepsTo
    clear hU
    refine hK _ _ ⟨ClsK.of (by assumption), ?_⟩; clear hK K; try simp only [nP]
    refine plan_nil ?_; simp only [tailL, List.filterMap_cons, List.filterMap_nil, nL]; change wpList _ _ _ (_ :: _ :: _ :: _ :: _ :: _ :: _ :: []) _ _
    clear fM
    replace HM := Lib.hid (hS _ _ hU2)
    clear hU2 hE1 hE0 hS hC hn1 hn2
    have fM := HM.out.fa
    go_wp2_with fail
    all_goals clear fM
    obtain ⟨C2, hC2, hS2⟩ := (HM.out.pick (r := readerR b r1) (by with_reducible repeat first | exact ph | apply pt)).step
    refine (fnum_any _ b r1 15 (by decide) HLN.out.2.1 hC2).mono ?_
    rintro e w3 ⟨rfl, hU⟩
    rw [HQ.out.2.1] at hU ⊢
    dsimp only at hU ⊢
    replace HM := Lib.hid (hS2 _ _ hU)
    clear hU hC2 hS2
    clear C2
    rw [if_pos HE2.out]
    have fM := HM.out.fa
    go_wp2_with fail
    all_goals clear fM
    go_end0
    unfold TakeP
    rw [HP.out]
    dsimp only
    rw [if_pos HE2.out]
    refine ⟨rfl, { s with e := ⟨x1, x2, s.e.number, s.e.text⟩ }, fun _ => rfl, ?_⟩
    refine nxt HM fun w4 M => ?_
    clear HM; have HM := M; clear M
    exact (Mem.list' (L1 := [readerR b r2, cellsR sb 27 ({ s with e := ⟨x1, x2, s.e.number, s.e.text⟩ } : Sd).cells]) (L := []) (Mem.sub HM.out (by repeat first | exact Sub.nil | refine Sub.cons (by with_reducible repeat first | exact ph | apply pt) ?_))).upd
  subst hx
  have HP4 := Lib.hid (show Part.take .entry r s = (r4, { s with e := ⟨4, x2, x3, x4⟩ }) by rw [hp, if_pos rfl]; rfl)
  clear hp
  by_cases e3 : r3.e = 0
  case neg =>
    have h4 := s34 e3
    subst h4
    have HP := Lib.hid HP4.out
    have HE := Lib.hid e3
    clear e3 s34 HP4
    have fM := HM.out.fa
    have hE0 : Keeps (C) w1 w1.drew := (Keeps.refl _ _).drew
    refine wp_region_plan [(0, 0), (0, 1), (3, 2), (1, 4), (2, 3)] [4] [3, 5, 6, 7, 8, 9, 10, 11] [5, 6, 7, 8, 9, 10, 11] (ClsK (C) w1) (by kernel_rfl) (by kernel_rfl) (by kernel_rfl) rfl rfl (ClsK.of hE0) (fun _ _ _ d _ h => by cases d <;> exact h) ?_; simp only [planL, nL]
    iterate 2 (refine pM _ rfl rfl ?_; simp only [nP, nE])
    refine pX (v := ?_) rfl ?_ ?_; rotate_left; (go_simp <;> with_reducible rfl); simp only [nP]
    refine pK (v := ?_) rfl (fun W => ?_) ?_; rotate_left; (go_simp <;> with_reducible rfl); simp only [nP]
    refine plan_does rfl (fun K hK => ?_)
    go_wp2_with fail
    refine (fnum_any _ b r 4 (by decide) HLN.out.1 (Res.keeps _ hC (Ext.drew0 w1) (fun _ _ => noB _))).mono ?_
    rintro e w2 ⟨rfl, hU⟩
    rw [HQ.out.1] at hU ⊢
    dsimp only at hU ⊢
    rw [if_pos HE1.out]
    have hU2 := hU.pre (Ext.drew0 w1)
    have hE1 := hU2.keepsTo
    clear hU
    refine hK _ _ ⟨ClsK.of (by assumption), ?_⟩; clear hK K; try simp only [nP]
    refine plan_nil ?_; simp only [tailL, List.filterMap_cons, List.filterMap_nil, nL]; change wpList _ _ _ (_ :: _ :: _ :: _ :: _ :: _ :: _ :: []) _ _
    clear fM
    replace HM := Lib.hid (hS _ _ hU2)
    clear hU2 hE1 hE0 hS hC hn1 hn2
    have fM := HM.out.fa
    go_wp2_with fail
    all_goals clear fM
    obtain ⟨C2, hC2, hS2⟩ := (HM.out.pick (r := readerR b r1) (by with_reducible repeat first | exact ph | apply pt)).step
    refine (fnum_any _ b r1 15 (by decide) HLN.out.2.1 hC2).mono ?_
    rintro e w3 ⟨rfl, hU⟩
    rw [HQ.out.2.1] at hU ⊢
    dsimp only at hU ⊢
    replace HM := Lib.hid (hS2 _ _ hU)
    clear hU hC2 hS2
    clear C2
    rw [if_pos HE2.out]
    have fM := HM.out.fa
    go_wp2_with fail
    all_goals clear fM
    refine nxt HM fun w4 M => ?_
    clear HM; have HM := M; clear M
    obtain ⟨C, hC, hn1, hn2, hS⟩ := HM.out.apart2 (r := readerR b r2) (b1 := kb) (b2 := sb) (by with_reducible repeat first | exact ph | apply pt) (by with_reducible repeat first | exact ph | apply pt) (by with_reducible repeat first | exact ph | apply pt)
    have fM := HM.out.fa
    have hE0 : Keeps (C) w4 w4.drew := (Keeps.refl _ _).drew
    refine wp_region_plan [(0, 0), (0, 1), (3, 2), (1, 4), (2, 3)] [4] [3, 5, 6, 7, 8, 9, 10, 11] [5, 6, 7, 8, 9, 10, 11] (ClsK (C) w4) (by kernel_rfl) (by kernel_rfl) (by kernel_rfl) rfl rfl (ClsK.of hE0) (fun _ _ _ d _ h => by cases d <;> exact h) ?_; simp only [planL, nL]
    iterate 2 (refine pM _ rfl rfl ?_; simp only [nP, nE])
    refine pX (v := ?_) rfl ?_ ?_; rotate_left; (go_simp <;> with_reducible rfl); simp only [nP]
    refine pK (v := ?_) rfl (fun W => ?_) ?_; rotate_left; (go_simp <;> with_reducible rfl); simp only [nP]
    refine plan_does rfl (fun K hK => ?_)
    go_wp2_with fail
    refine (fnum_any _ b r2 2147483647 (by decide) HLN.out.2.2.1 (Res.keeps _ hC (Ext.drew0 w4) (fun _ _ => noB _))).mono ?_
    rintro e w5 ⟨rfl, hU⟩
    rw [HQ.out.2.2.1] at hU ⊢
    dsimp only at hU ⊢
    rw [if_neg HE.out]
    unfold saidE
    refine ⟨rfl, ?_⟩
    replace HM := Lib.hid (hS _ _ (hU.pre (Ext.drew0 w4)))
    clear hK K hE0 hU hS hC hn1 hn2 fM
    unfold TakeP
    rw [HP.out]
    dsimp only
    rw [if_neg HE.out]
    exact ⟨rfl, { s with e := ⟨4, x2, s.e.number, s.e.text⟩ }, fun h => absurd h HE.out, (Mem.list' (L1 := [readerR b r4, cellsR sb 27 ({ s with e := ⟨4, x2, s.e.number, s.e.text⟩ } : Sd).cells]) (L := []) (Mem.sub HM.out (by repeat first | exact Sub.nil | refine Sub.cons (by with_reducible repeat first | exact ph | apply pt) ?_))).upd⟩
  have HE3 := Lib.hid e3
  clear e3 s34
  by_cases e4 : r4.e = 0
  case neg =>
    have HP := Lib.hid HP4.out
    have HE := Lib.hid e4
    clear e4 HP4
    have fM := HM.out.fa
    have hE0 : Keeps (C) w1 w1.drew := (Keeps.refl _ _).drew
    refine wp_region_plan [(0, 0), (0, 1), (3, 2), (1, 4), (2, 3)] [4] [3, 5, 6, 7, 8, 9, 10, 11] [5, 6, 7, 8, 9, 10, 11] (ClsK (C) w1) (by kernel_rfl) (by kernel_rfl) (by kernel_rfl) rfl rfl (ClsK.of hE0) (fun _ _ _ d _ h => by cases d <;> exact h) ?_; simp only [planL, nL]
    iterate 2 (refine pM _ rfl rfl ?_; simp only [nP, nE])
    refine pX (v := ?_) rfl ?_ ?_; rotate_left; (go_simp <;> with_reducible rfl); simp only [nP]
    refine pK (v := ?_) rfl (fun W => ?_) ?_; rotate_left; (go_simp <;> with_reducible rfl); simp only [nP]
    refine plan_does rfl (fun K hK => ?_)
    go_wp2_with fail
    refine (fnum_any _ b r 4 (by decide) HLN.out.1 (Res.keeps _ hC (Ext.drew0 w1) (fun _ _ => noB _))).mono ?_
    rintro e w2 ⟨rfl, hU⟩
    rw [HQ.out.1] at hU ⊢
    dsimp only at hU ⊢
    rw [if_pos HE1.out]
    have hU2 := hU.pre (Ext.drew0 w1)
    have hE1 := hU2.keepsTo
    clear hU
    refine hK _ _ ⟨ClsK.of (by assumption), ?_⟩; clear hK K; try simp only [nP]
    refine plan_nil ?_; simp only [tailL, List.filterMap_cons, List.filterMap_nil, nL]; change wpList _ _ _ (_ :: _ :: _ :: _ :: _ :: _ :: _ :: []) _ _
    clear fM
    replace HM := Lib.hid (hS _ _ hU2)
    clear hU2 hE1 hE0 hS hC hn1 hn2
    have fM := HM.out.fa
    go_wp2_with fail
    all_goals clear fM
    obtain ⟨C2, hC2, hS2⟩ := (HM.out.pick (r := readerR b r1) (by with_reducible repeat first | exact ph | apply pt)).step
    refine (fnum_any _ b r1 15 (by decide) HLN.out.2.1 hC2).mono ?_
    rintro e w3 ⟨rfl, hU⟩
    rw [HQ.out.2.1] at hU ⊢
    dsimp only at hU ⊢
    replace HM := Lib.hid (hS2 _ _ hU)
    clear hU hC2 hS2
    clear C2
    rw [if_pos HE2.out]
    have fM := HM.out.fa
    go_wp2_with fail
    all_goals clear fM
    refine nxt HM fun w4 M => ?_
    clear HM; have HM := M; clear M
    obtain ⟨C, hC, hn1, hn2, hS⟩ := HM.out.apart2 (r := readerR b r2) (b1 := kb) (b2 := sb) (by with_reducible repeat first | exact ph | apply pt) (by with_reducible repeat first | exact ph | apply pt) (by with_reducible repeat first | exact ph | apply pt)
    have fM := HM.out.fa
    have hE0 : Keeps (C) w4 w4.drew := (Keeps.refl _ _).drew
    refine wp_region_plan [(0, 0), (0, 1), (3, 2), (1, 4), (2, 3)] [4] [3, 5, 6, 7, 8, 9, 10, 11] [5, 6, 7, 8, 9, 10, 11] (ClsK (C) w4) (by kernel_rfl) (by kernel_rfl) (by kernel_rfl) rfl rfl (ClsK.of hE0) (fun _ _ _ d _ h => by cases d <;> exact h) ?_; simp only [planL, nL]
    iterate 2 (refine pM _ rfl rfl ?_; simp only [nP, nE])
    refine pX (v := ?_) rfl ?_ ?_; rotate_left; (go_simp <;> with_reducible rfl); simp only [nP]
    refine pK (v := ?_) rfl (fun W => ?_) ?_; rotate_left; (go_simp <;> with_reducible rfl); simp only [nP]
    refine plan_does rfl (fun K hK => ?_)
    go_wp2_with fail
    refine (fnum_any _ b r2 2147483647 (by decide) HLN.out.2.2.1 (Res.keeps _ hC (Ext.drew0 w4) (fun _ _ => noB _))).mono ?_
    rintro e w5 ⟨rfl, hU⟩
    rw [HQ.out.2.2.1] at hU ⊢
    dsimp only at hU ⊢
    rw [if_pos HE3.out]
    have hU2 := hU.pre (Ext.drew0 w4)
    have hE1 := hU2.keepsTo
    clear hU
    refine hK _ _ ⟨ClsK.of (by assumption), ?_⟩; clear hK K; try simp only [nP]
    refine plan_nil ?_; simp only [tailL, List.filterMap_cons, List.filterMap_nil, nL]; change wpList _ _ _ (_ :: _ :: _ :: _ :: _ :: _ :: _ :: []) _ _
    clear fM
    replace HM := Lib.hid (hS _ _ hU2)
    clear hU2 hE1 hE0 hS hC hn1 hn2
    have fM := HM.out.fa
    go_wp2_with fail
    all_goals clear fM
    obtain ⟨C2, hC2, hS2⟩ := (HM.out.pick (r := readerR b r3) (by with_reducible repeat first | exact ph | apply pt)).step
    refine (ftxt_any _ b r3 200 (by decide) HLN.out.2.2.2 hC2).mono ?_
    rintro e w6 ⟨rfl, hU⟩
    rw [HQ.out.2.2.2] at hU ⊢
    dsimp only at hU ⊢
    replace HM := Lib.hid (hS2 _ _ hU)
    clear hU hC2 hS2
    clear C2
    rw [if_neg HE.out]
    unfold saidE
    go_wp2_with fail
    refine ⟨rfl, ?_⟩
    unfold TakeP
    rw [HP.out]
    dsimp only
    rw [if_neg HE.out]
    exact ⟨rfl, { s with e := ⟨4, x2, s.e.number, s.e.text⟩ }, fun h => absurd h HE.out, (Mem.list' (L1 := [readerR b r4, cellsR sb 27 ({ s with e := ⟨4, x2, s.e.number, s.e.text⟩ } : Sd).cells]) (L := []) (Mem.sub HM.out (by repeat first | exact Sub.nil | refine Sub.cons (by with_reducible repeat first | exact ph | apply pt) ?_))).upd⟩
  have HE := Lib.hid e4
  clear e4
  have fM := HM.out.fa
  have hE0 : Keeps (C) w1 w1.drew := (Keeps.refl _ _).drew
  refine wp_region_plan [(0, 0), (0, 1), (3, 2), (1, 4), (2, 3)] [4] [3, 5, 6, 7, 8, 9, 10, 11] [5, 6, 7, 8, 9, 10, 11] (ClsK (C) w1) (by kernel_rfl) (by kernel_rfl) (by kernel_rfl) rfl rfl (ClsK.of hE0) (fun _ _ _ d _ h => by cases d <;> exact h) ?_; simp only [planL, nL]
  iterate 2 (refine pM _ rfl rfl ?_; simp only [nP, nE])
  refine pX (v := ?_) rfl ?_ ?_; rotate_left; (go_simp <;> with_reducible rfl); simp only [nP]
  refine pK (v := ?_) rfl (fun W => ?_) ?_; rotate_left; (go_simp <;> with_reducible rfl); simp only [nP]
  refine plan_does rfl (fun K hK => ?_)
  go_wp2_with fail
  refine (fnum_any _ b r 4 (by decide) HLN.out.1 (Res.keeps _ hC (Ext.drew0 w1) (fun _ _ => noB _))).mono ?_
  rintro e w2 ⟨rfl, hU⟩
  rw [HQ.out.1] at hU ⊢
  dsimp only at hU ⊢
  rw [if_pos HE1.out]
  have hU2 := hU.pre (Ext.drew0 w1)
  have hE1 := hU2.keepsTo
  clear hU
  refine hK _ _ ⟨ClsK.of (by assumption), ?_⟩; clear hK K; try simp only [nP]
  refine plan_nil ?_; simp only [tailL, List.filterMap_cons, List.filterMap_nil, nL]; change wpList _ _ _ (_ :: _ :: _ :: _ :: _ :: _ :: _ :: []) _ _
  clear fM
  replace HM := Lib.hid (hS _ _ hU2)
  clear hU2 hE1 hE0 hS hC hn1 hn2
  have fM := HM.out.fa
  go_wp2_with fail
  all_goals clear fM
  obtain ⟨C2, hC2, hS2⟩ := (HM.out.pick (r := readerR b r1) (by with_reducible repeat first | exact ph | apply pt)).step
  refine (fnum_any _ b r1 15 (by decide) HLN.out.2.1 hC2).mono ?_
  rintro e w3 ⟨rfl, hU⟩
  rw [HQ.out.2.1] at hU ⊢
  dsimp only at hU ⊢
  replace HM := Lib.hid (hS2 _ _ hU)
  clear hU hC2 hS2
  clear C2
  rw [if_pos HE2.out]
  have fM := HM.out.fa
  go_wp2_with fail
  all_goals clear fM
  refine nxt HM fun w4 M => ?_
  clear HM; have HM := M; clear M
  obtain ⟨C, hC, hn1, hn2, hS⟩ := HM.out.apart2 (r := readerR b r2) (b1 := kb) (b2 := sb) (by with_reducible repeat first | exact ph | apply pt) (by with_reducible repeat first | exact ph | apply pt) (by with_reducible repeat first | exact ph | apply pt)
  have fM := HM.out.fa
  have hE0 : Keeps (C) w4 w4.drew := (Keeps.refl _ _).drew
  refine wp_region_plan [(0, 0), (0, 1), (3, 2), (1, 4), (2, 3)] [4] [3, 5, 6, 7, 8, 9, 10, 11] [5, 6, 7, 8, 9, 10, 11] (ClsK (C) w4) (by kernel_rfl) (by kernel_rfl) (by kernel_rfl) rfl rfl (ClsK.of hE0) (fun _ _ _ d _ h => by cases d <;> exact h) ?_; simp only [planL, nL]
  iterate 2 (refine pM _ rfl rfl ?_; simp only [nP, nE])
  refine pX (v := ?_) rfl ?_ ?_; rotate_left; (go_simp <;> with_reducible rfl); simp only [nP]
  refine pK (v := ?_) rfl (fun W => ?_) ?_; rotate_left; (go_simp <;> with_reducible rfl); simp only [nP]
  refine plan_does rfl (fun K hK => ?_)
  go_wp2_with fail
  refine (fnum_any _ b r2 2147483647 (by decide) HLN.out.2.2.1 (Res.keeps _ hC (Ext.drew0 w4) (fun _ _ => noB _))).mono ?_
  rintro e w5 ⟨rfl, hU⟩
  rw [HQ.out.2.2.1] at hU ⊢
  dsimp only at hU ⊢
  rw [if_pos HE3.out]
  have hU2 := hU.pre (Ext.drew0 w4)
  have hE1 := hU2.keepsTo
  clear hU
  refine hK _ _ ⟨ClsK.of (by assumption), ?_⟩; clear hK K; try simp only [nP]
  refine plan_nil ?_; simp only [tailL, List.filterMap_cons, List.filterMap_nil, nL]; change wpList _ _ _ (_ :: _ :: _ :: _ :: _ :: _ :: _ :: []) _ _
  clear fM
  replace HM := Lib.hid (hS _ _ hU2)
  clear hU2 hE1 hE0 hS hC hn1 hn2
  have fM := HM.out.fa
  go_wp2_with fail
  all_goals clear fM
  obtain ⟨C2, hC2, hS2⟩ := (HM.out.pick (r := readerR b r3) (by with_reducible repeat first | exact ph | apply pt)).step
  refine (ftxt_any _ b r3 200 (by decide) HLN.out.2.2.2 hC2).mono ?_
  rintro e w6 ⟨rfl, hU⟩
  rw [HQ.out.2.2.2] at hU ⊢
  dsimp only at hU ⊢
  replace HM := Lib.hid (hS2 _ _ hU)
  clear hU hC2 hS2
  clear C2
  rw [if_pos HE.out]
  have fM := HM.out.fa
  go_wp2_with fail
  all_goals clear fM
  go_end0
  unfold TakeP
  rw [HP4.out]
  dsimp only
  rw [if_pos HE.out]
  refine ⟨rfl, { s with e := ⟨4, x2, x3, x4⟩ }, fun _ => rfl, ?_⟩
  refine nxt HM fun w9 M => ?_
  clear HM; have HM := M; clear M
  exact (Mem.list' (L1 := [readerR b r4, cellsR sb 27 ({ s with e := ⟨4, x2, x3, x4⟩ } : Sd).cells]) (L := []) (Mem.sub HM.out (by repeat first | exact Sub.nil | refine Sub.cons (by with_reducible repeat first | exact ph | apply pt) ?_))).upd
theorem ptake_any {A : Nat → Prop} (w : World) (b sb : Nat) (p : Part) (r : Rdr) (s : Sd) (hl : r.b.length ≤ 70368744177664) (h : SepL [readerR b r, cellsR sb 27 s.cells] A w) :
    Calls Tryz.prog (takeF p) #[rdV b, .pointer (some ⟨sb, 0, none⟩)] w (TakeP A w b sb p r s) := by
  cases p
  · exact take_member w b sb 0 r s hl h
  · exact take_number w b sb _ r s hl h
  · exact take_index w b sb 0 r s hl h
  · exact take_is w b sb r s hl h
  · exact take_said w b sb 0 r s hl h
  · exact take_token w b sb 0 r s hl h
  · exact take_entry w b sb r s hl h
end Go.Proofs.YtcfgnbbiljohjaaGreatDoor
end
section
/- Whether what is said is the same, as values. No condition. -/
set_option linter.unusedVariables false
set_option linter.unusedSimpArgs false
set_option maxHeartbeats 4000000
set_option maxRecDepth 10000
namespace Go.Proofs.YtcfgnbbiljohjaaGreatDoor
open Go.RowKit
theorem str_eq (l m : List UInt8) : ((bs l).toList == (bs m).toList) = decide (l = m) := by
  rw [bs_toList, bs_toList, Bool.eq_iff_iff]; simp
theorem int_eq (a b : Int) : (a == b) = decide (a = b) := by rw [Bool.eq_iff_iff]; simp
theorem boo_eq (a b : Bool) : (a == b) = decide (a = b) := by rw [Bool.eq_iff_iff]; simp
theorem eqIn_en (x y : En) (d : Nat) (W : World) : (Op.equalIn (d + 2) 25 x.v y.v).run Tryz.prog W = .ok (decide (x = y)) W := by
  unfold En.v
  rw [run_equalIn_struct W (d + 1) 25 _ _ (by kernel_rfl) (by kernel_rfl)]
  obtain ⟨f, hf⟩ : ∃ f : En → Array Value, f = fun z => #[Value.int .i64 z.kind, .int .i64 z.member, .int .i64 z.number, .string (bs z.text)] := ⟨_, rfl⟩
  have hx : ∀ z : En, #[Value.int .i64 z.kind, .int .i64 z.member, .int .i64 z.number, .string (bs z.text)] = f z := fun z => by rw [hf]
  have p0 : ∀ z : En, (part 23 (f z) 0).run Tryz.prog W = .ok (.int .i64 z.kind) W := fun z => by rw [hf]; exact run_part_plain W (by kernel_rfl) rfl
  have p1 : ∀ z : En, (part 3 (f z) 1).run Tryz.prog W = .ok (.int .i64 z.member) W := fun z => by rw [hf]; exact run_part_plain W (by kernel_rfl) rfl
  have p2 : ∀ z : En, (part 2 (f z) 2).run Tryz.prog W = .ok (.int .i64 z.number) W := fun z => by rw [hf]; exact run_part_plain W (by kernel_rfl) rfl
  have p3 : ∀ z : En, (part 9 (f z) 3).run Tryz.prog W = .ok (.string (bs z.text)) W := fun z => by rw [hf]; exact run_part_plain W (by kernel_rfl) rfl
  rw [hx x, hx y]
  clear hf hx
  have q0 := run_equalIn_int W d 23 .i64 .i64 x.kind y.kind Tryz.underlying23
  have q1 := run_equalIn_int W d 3 .i64 .i64 x.member y.member Tryz.underlying3
  have q2 := run_equalIn_int W d 2 .i64 .i64 x.number y.number Tryz.underlying2
  have q3 := run_equalIn_string W d 9 (bs x.text) (bs y.text) Tryz.underlying9
  rw [str_eq] at q3
  rw [int_eq] at q0 q1 q2
  have he : decide (x = y) = (decide (x.kind = y.kind) && (decide (x.member = y.member) && (decide (x.number = y.number) && decide (x.text = y.text)))) := by
    obtain ⟨a, b, c, e⟩ := x
    obtain ⟨a', b', c', e'⟩ := y
    rw [Bool.eq_iff_iff]; simp
  rw [he]
  simp only [Program.fieldsOf, Tryz.underlying25, Op.eqFields]
  obtain ⟨g0, hg0⟩ : ∃ g : En → Value, g = fun z => Value.int .i64 z.kind := ⟨_, rfl⟩
  have u0 : ∀ z : En, Value.int .i64 z.kind = g0 z := fun z => by rw [hg0]
  simp only [u0] at p0
  rw [u0 x, u0 y] at q0
  clear u0 hg0
  obtain ⟨g1, hg1⟩ : ∃ g : En → Value, g = fun z => Value.int .i64 z.member := ⟨_, rfl⟩
  have u1 : ∀ z : En, Value.int .i64 z.member = g1 z := fun z => by rw [hg1]
  simp only [u1] at p1
  rw [u1 x, u1 y] at q1
  clear u1 hg1
  obtain ⟨g2, hg2⟩ : ∃ g : En → Value, g = fun z => Value.int .i64 z.number := ⟨_, rfl⟩
  have u2 : ∀ z : En, Value.int .i64 z.number = g2 z := fun z => by rw [hg2]
  simp only [u2] at p2
  rw [u2 x, u2 y] at q2
  clear u2 hg2
  obtain ⟨g3, hg3⟩ : ∃ g : En → Value, g = fun z => Value.string (bs z.text) := ⟨_, rfl⟩
  have u3 : ∀ z : En, Value.string (bs z.text) = g3 z := fun z => by rw [hg3]
  simp only [u3] at p3
  rw [u3 x, u3 y] at q3
  clear u3 hg3
  obtain ⟨b0, hb0⟩ : ∃ b, decide (x.kind = y.kind) = b := ⟨_, rfl⟩
  rw [hb0] at q0 ⊢
  clear hb0
  obtain ⟨b1, hb1⟩ : ∃ b, decide (x.member = y.member) = b := ⟨_, rfl⟩
  rw [hb1] at q1 ⊢
  clear hb1
  obtain ⟨b2, hb2⟩ : ∃ b, decide (x.number = y.number) = b := ⟨_, rfl⟩
  rw [hb2] at q2 ⊢
  clear hb2
  obtain ⟨b3, hb3⟩ : ∃ b, decide (x.text = y.text) = b := ⟨_, rfl⟩
  rw [hb3] at q3 ⊢
  clear hb3
  cases b0
  case false => simp [p0, q0, Result.andThen]
  cases b1
  case false => simp [p0, q0, p1, q1, Result.andThen]
  cases b2
  case false => simp [p0, q0, p1, q1, p2, q2, Result.andThen]
  cases b3
  case false => simp [p0, q0, p1, q1, p2, q2, p3, q3, Result.andThen]
  simp [p0, q0, p1, q1, p2, q2, p3, q3, Result.andThen]
theorem eqIn_sd (x y : Sd) (d : Nat) (W : World) : (Op.equalIn (d + 3) 27 x.v y.v).run Tryz.prog W = .ok (decide (x = y)) W := by
  unfold Sd.v Sd.cells
  rw [run_equalIn_struct W (d + 2) 27 _ _ (by kernel_rfl) (by kernel_rfl)]
  obtain ⟨f, hf⟩ : ∃ f : Sd → Array Value, f = fun z => [Value.int .i64 z.kind, .int .i64 z.member, .int .i64 z.number, .int .i64 z.index, .bool z.is, .string (bs z.text), .string (bs z.token), .int .i64 z.e.kind, .int .i64 z.e.member, .int .i64 z.e.number, .string (bs z.e.text)].toArray := ⟨_, rfl⟩
  have hx : ∀ z, [Value.int .i64 z.kind, .int .i64 z.member, .int .i64 z.number, .int .i64 z.index, .bool z.is, .string (bs z.text), .string (bs z.token), .int .i64 z.e.kind, .int .i64 z.e.member, .int .i64 z.e.number, .string (bs z.e.text)].toArray = f z := fun z => by rw [hf]
  have p0 : ∀ z, (part 22 (f z) 0).run Tryz.prog W = .ok (.int .i64 z.kind) W := fun z => by rw [hf]; exact run_part_plain W (by kernel_rfl) rfl
  have p1 : ∀ z, (part 3 (f z) 1).run Tryz.prog W = .ok (.int .i64 z.member) W := fun z => by rw [hf]; exact run_part_plain W (by kernel_rfl) rfl
  have p2 : ∀ z, (part 2 (f z) 2).run Tryz.prog W = .ok (.int .i64 z.number) W := fun z => by rw [hf]; exact run_part_plain W (by kernel_rfl) rfl
  have p3 : ∀ z, (part 2 (f z) 3).run Tryz.prog W = .ok (.int .i64 z.index) W := fun z => by rw [hf]; exact run_part_plain W (by kernel_rfl) rfl
  have p4 : ∀ z, (part 4 (f z) 4).run Tryz.prog W = .ok (.bool z.is) W := fun z => by rw [hf]; exact run_part_plain W (by kernel_rfl) rfl
  have p5 : ∀ z, (part 9 (f z) 5).run Tryz.prog W = .ok (.string (bs z.text)) W := fun z => by rw [hf]; exact run_part_plain W (by kernel_rfl) rfl
  have p6 : ∀ z, (part 9 (f z) 6).run Tryz.prog W = .ok (.string (bs z.token)) W := fun z => by rw [hf]; exact run_part_plain W (by kernel_rfl) rfl
  have p7 : ∀ z, (part 25 (f z) 7).run Tryz.prog W = .ok z.e.v W := fun z => by rw [hf]; exact part_agg (n := 4) Tryz.underlying25 rfl (by kernel_rfl) W
  rw [hx x, hx y]
  clear hf hx
  have q0 := run_equalIn_int W (d + 1) 22 .i64 .i64 x.kind y.kind Tryz.underlying22
  have q1 := run_equalIn_int W (d + 1) 3 .i64 .i64 x.member y.member Tryz.underlying3
  have q2 := run_equalIn_int W (d + 1) 2 .i64 .i64 x.number y.number Tryz.underlying2
  have q3 := run_equalIn_int W (d + 1) 2 .i64 .i64 x.index y.index Tryz.underlying2
  have q4 := run_equalIn_bool W (d + 1) 4 x.is y.is Tryz.underlying4
  have q5 := run_equalIn_string W (d + 1) 9 (bs x.text) (bs y.text) Tryz.underlying9
  have q6 := run_equalIn_string W (d + 1) 9 (bs x.token) (bs y.token) Tryz.underlying9
  have q7 := eqIn_en x.e y.e d W
  rw [str_eq] at q5 q6
  rw [int_eq] at q0 q1 q2 q3
  rw [boo_eq] at q4
  have he : decide (x = y) = (decide (x.kind = y.kind) && (decide (x.member = y.member) && (decide (x.number = y.number) && (decide (x.index = y.index) && (decide (x.is = y.is) && (decide (x.text = y.text) && (decide (x.token = y.token) && decide (x.e = y.e)))))))) := by
    obtain ⟨a, b, c, e, a1, a2, a3, a4⟩ := x
    obtain ⟨a', b', c', e', a1', a2', a3', a4'⟩ := y
    rw [Bool.eq_iff_iff]; simp
  rw [he]
  simp only [Program.fieldsOf, Tryz.underlying27, Op.eqFields]
  obtain ⟨g0, hg0⟩ : ∃ g : Sd → Value, g = fun z => Value.int .i64 z.kind := ⟨_, rfl⟩
  have u0 : ∀ z : Sd, Value.int .i64 z.kind = g0 z := fun z => by rw [hg0]
  simp only [u0] at p0
  rw [u0 x, u0 y] at q0
  clear u0 hg0
  obtain ⟨g1, hg1⟩ : ∃ g : Sd → Value, g = fun z => Value.int .i64 z.member := ⟨_, rfl⟩
  have u1 : ∀ z : Sd, Value.int .i64 z.member = g1 z := fun z => by rw [hg1]
  simp only [u1] at p1
  rw [u1 x, u1 y] at q1
  clear u1 hg1
  obtain ⟨g2, hg2⟩ : ∃ g : Sd → Value, g = fun z => Value.int .i64 z.number := ⟨_, rfl⟩
  have u2 : ∀ z : Sd, Value.int .i64 z.number = g2 z := fun z => by rw [hg2]
  simp only [u2] at p2
  rw [u2 x, u2 y] at q2
  clear u2 hg2
  obtain ⟨g3, hg3⟩ : ∃ g : Sd → Value, g = fun z => Value.int .i64 z.index := ⟨_, rfl⟩
  have u3 : ∀ z : Sd, Value.int .i64 z.index = g3 z := fun z => by rw [hg3]
  simp only [u3] at p3
  rw [u3 x, u3 y] at q3
  clear u3 hg3
  obtain ⟨g4, hg4⟩ : ∃ g : Sd → Value, g = fun z => Value.bool z.is := ⟨_, rfl⟩
  have u4 : ∀ z : Sd, Value.bool z.is = g4 z := fun z => by rw [hg4]
  simp only [u4] at p4
  rw [u4 x, u4 y] at q4
  clear u4 hg4
  obtain ⟨g5, hg5⟩ : ∃ g : Sd → Value, g = fun z => Value.string (bs z.text) := ⟨_, rfl⟩
  have u5 : ∀ z : Sd, Value.string (bs z.text) = g5 z := fun z => by rw [hg5]
  simp only [u5] at p5
  rw [u5 x, u5 y] at q5
  clear u5 hg5
  obtain ⟨g6, hg6⟩ : ∃ g : Sd → Value, g = fun z => Value.string (bs z.token) := ⟨_, rfl⟩
  have u6 : ∀ z : Sd, Value.string (bs z.token) = g6 z := fun z => by rw [hg6]
  simp only [u6] at p6
  rw [u6 x, u6 y] at q6
  clear u6 hg6
  obtain ⟨g7, hg7⟩ : ∃ g : Sd → Value, g = fun z => z.e.v := ⟨_, rfl⟩
  have u7 : ∀ z : Sd, z.e.v = g7 z := fun z => by rw [hg7]
  simp only [u7] at p7
  rw [u7 x, u7 y] at q7
  clear u7 hg7
  obtain ⟨b0, hb0⟩ : ∃ b, decide (x.kind = y.kind) = b := ⟨_, rfl⟩
  rw [hb0] at q0 ⊢
  clear hb0
  obtain ⟨b1, hb1⟩ : ∃ b, decide (x.member = y.member) = b := ⟨_, rfl⟩
  rw [hb1] at q1 ⊢
  clear hb1
  obtain ⟨b2, hb2⟩ : ∃ b, decide (x.number = y.number) = b := ⟨_, rfl⟩
  rw [hb2] at q2 ⊢
  clear hb2
  obtain ⟨b3, hb3⟩ : ∃ b, decide (x.index = y.index) = b := ⟨_, rfl⟩
  rw [hb3] at q3 ⊢
  clear hb3
  obtain ⟨b4, hb4⟩ : ∃ b, decide (x.is = y.is) = b := ⟨_, rfl⟩
  rw [hb4] at q4 ⊢
  clear hb4
  obtain ⟨b5, hb5⟩ : ∃ b, decide (x.text = y.text) = b := ⟨_, rfl⟩
  rw [hb5] at q5 ⊢
  clear hb5
  obtain ⟨b6, hb6⟩ : ∃ b, decide (x.token = y.token) = b := ⟨_, rfl⟩
  rw [hb6] at q6 ⊢
  clear hb6
  obtain ⟨b7, hb7⟩ : ∃ b, decide (x.e = y.e) = b := ⟨_, rfl⟩
  rw [hb7] at q7 ⊢
  clear hb7
  cases b0
  case false => simp [p0, q0, Result.andThen]
  cases b1
  case false => simp [p0, q0, p1, q1, Result.andThen]
  cases b2
  case false => simp [p0, q0, p1, q1, p2, q2, Result.andThen]
  cases b3
  case false => simp [p0, q0, p1, q1, p2, q2, p3, q3, Result.andThen]
  cases b4
  case false => simp [p0, q0, p1, q1, p2, q2, p3, q3, p4, q4, Result.andThen]
  cases b5
  case false => simp [p0, q0, p1, q1, p2, q2, p3, q3, p4, q4, p5, q5, Result.andThen]
  cases b6
  case false => simp [p0, q0, p1, q1, p2, q2, p3, q3, p4, q4, p5, q5, p6, q6, Result.andThen]
  cases b7
  case false => simp [p0, q0, p1, q1, p2, q2, p3, q3, p4, q4, p5, q5, p6, q6, p7, q7, Result.andThen]
  simp [p0, q0, p1, q1, p2, q2, p3, q3, p4, q4, p5, q5, p6, q6, p7, q7, Result.andThen]
theorem eq_sd (x y : Sd) (W : World) : (binOp .eql 27 x.v y.v).run Tryz.prog W = .ok (.bool (decide (x = y))) W := eql_of (eqIn_sd x y 9997 W)
theorem ne_sd (x y : Sd) (W : World) : (binOp .neq 27 x.v y.v).run Tryz.prog W = .ok (.bool (!decide (x = y))) W := neq_of (eqIn_sd x y 9997 W)
end Go.Proofs.YtcfgnbbiljohjaaGreatDoor
end
