/- Texts PartD, PartE, one behind the other. Conditions: as each says. -/
import Derived.Test.YtoadjbgpfihoiaaGreatDoorPlZC
set_option linter.unusedVariables false
set_option linter.unusedSimpArgs false
set_option maxHeartbeats 8000000
set_option maxRecDepth 100000
namespace Go.Proofs.YtoadjbgpfihoiaaGreatDoor
open Go.RowKit
def layF : Part → Nat
 | .member => 240
 | .number _ => 251
 | .index => 259
 | .is => 263
 | .said => 255
 | .token => 244
 | .entry => 270
def LayC (A : Nat → Prop) (w : World) (b : Nat) (l : List UInt8) (p : Part) (s : Sd) : Prop :=
 Calls Tryz.prog (layF p) #[.pointer (some ⟨b, 0, none⟩), s.v] w fun e w' => e = .returned (.tuple #[]) ∧ Upd A w w' (writerR b (l ++ p.lay s))
theorem numsL_one (n : Nat) : numsL [n] = numL n := by simp [numsL]
theorem numsL_two (n m : Nat) : numsL [n, m] = numL n ++ numL m := by simp [numsL]
theorem Mem.apart1 {F : Nat → Prop} {w0 w : World} {L L1 L2 : List Res} {r : Res} {b : Nat} {t : TypeId} {cs : List Value} (h : Mem F w0 w L) (p : Pick L r L1) (p1 : Pick L1 (cellsR b t cs) L2) :
 ∃ C, r.p C w ∧ ¬ C b ∧ Box w b t cs ∧ ∀ (r' : Res) (w' : World), Upd C w w' r' → Mem F w0 w' (r' :: L1) := by
 obtain ⟨C, hC, hn, -, hS⟩ := h.apart2 p p1 p1; obtain ⟨B, hB⟩ := (h.pick p).get (.there p1); exact ⟨C, hC, hn, hB.2, hS⟩
theorem lay_member {A : Nat → Prop} (w : World) (b : Nat) (l : List UInt8) (n : Int) (s : Sd) (hl : l.length ≤ 1073741000) (h0 : 0 ≤ s.member) (h1 : s.member ≤ 2147483647) (h : (writerR b l).p A w) : LayC A w b l .member s := by
 have HM := Hd (Mem.start h); obtain ⟨x, hx⟩ : ∃ x : Nat, s.member = x := ⟨s.member.toNat, by omega⟩; have HX := Hd (show x ≤ topN by unfold topN; omega); have HP := Hd (show Part.lay .member s = numL x by show numL s.member.toNat = _; rw [hx]; rfl); unfold LayC; rw [HP.out]; unfold Sd.v Sd.cells; rw [hx]; clear h h0 h1 hx HP; show Calls _ 240 _ _ _
 go_enter Tryz.func240, Tryz.ntmps240
 have fM := HM.out.fa; go_wp2_with fail; all_goals clear fM
 obtain ⟨q, hq⟩ : ∃ q, w.heap.size + 1 = q := ⟨_, rfl⟩; refine nxt HM fun w1 M => ?_
 replace HM := M; clear M; rw [hq] at HM ⊢; clear hq; obtain ⟨C, hC, hn, hb, hS⟩ := HM.out.apart1 (r := writerR b l) (b := q) (cs := [.int .i64 (x : Int)]) (by with_reducible repeat first | exact ph | apply pt) (by with_reducible repeat first | exact ph | apply pt); refine (wnumber_any w1 b q l [x] (by omega) (by simp) hb hn (by simpa using HX.out) hC).mono ?_; rintro e w2 ⟨rfl, hU⟩; rw [numsL_one] at hU; replace HM := Hd (hS _ _ hU); clear hC hn hb hS hU C; go_wp2_with fail; go_end0
 exact ⟨rfl, (HM.out.pick (r := writerR b (l ++ numL x)) pk).upd⟩
theorem lay_number {A : Nat → Prop} (w : World) (b : Nat) (l : List UInt8) (n : Int) (s : Sd) (hl : l.length ≤ 1073741000) (h0 : 0 ≤ s.number) (h1 : s.number ≤ 2147483647) (h : (writerR b l).p A w) : LayC A w b l (.number n) s := by
 have HM := Hd (Mem.start h); obtain ⟨x, hx⟩ : ∃ x : Nat, s.number = x := ⟨s.number.toNat, by omega⟩; have HX := Hd (show x ≤ topN by unfold topN; omega); have HP := Hd (show Part.lay (.number n) s = numL x by show numL s.number.toNat = _; rw [hx]; rfl); unfold LayC; rw [HP.out]; unfold Sd.v Sd.cells; rw [hx]; clear h h0 h1 hx HP; show Calls _ 251 _ _ _
 go_enter Tryz.func251, Tryz.ntmps251
 have fM := HM.out.fa; go_wp2_with fail; all_goals clear fM
 obtain ⟨q, hq⟩ : ∃ q, w.heap.size + 1 = q := ⟨_, rfl⟩; refine nxt HM fun w1 M => ?_
 replace HM := M; clear M; rw [hq] at HM ⊢; clear hq; obtain ⟨C, hC, hn, hb, hS⟩ := HM.out.apart1 (r := writerR b l) (b := q) (cs := [.int .i64 (x : Int)]) (by with_reducible repeat first | exact ph | apply pt) (by with_reducible repeat first | exact ph | apply pt); refine (wnumber_any w1 b q l [x] (by omega) (by simp) hb hn (by simpa using HX.out) hC).mono ?_; rintro e w2 ⟨rfl, hU⟩; rw [numsL_one] at hU; replace HM := Hd (hS _ _ hU); clear hC hn hb hS hU C; go_wp2_with fail; go_end0
 exact ⟨rfl, (HM.out.pick (r := writerR b (l ++ numL x)) pk).upd⟩
theorem lay_index {A : Nat → Prop} (w : World) (b : Nat) (l : List UInt8) (n : Int) (s : Sd) (hl : l.length ≤ 1073741000) (h0 : 0 ≤ s.index) (h1 : s.index ≤ 2147483647) (h : (writerR b l).p A w) : LayC A w b l .index s := by
 have HM := Hd (Mem.start h); obtain ⟨x, hx⟩ : ∃ x : Nat, s.index = x := ⟨s.index.toNat, by omega⟩; have HX := Hd (show x ≤ topN by unfold topN; omega); have HP := Hd (show Part.lay .index s = numL x by show numL s.index.toNat = _; rw [hx]; rfl); unfold LayC; rw [HP.out]; unfold Sd.v Sd.cells; rw [hx]; clear h h0 h1 hx HP; show Calls _ 259 _ _ _
 go_enter Tryz.func259, Tryz.ntmps259
 have fM := HM.out.fa; go_wp2_with fail; all_goals clear fM
 obtain ⟨q, hq⟩ : ∃ q, w.heap.size + 1 = q := ⟨_, rfl⟩; refine nxt HM fun w1 M => ?_
 replace HM := M; clear M; rw [hq] at HM ⊢; clear hq; obtain ⟨C, hC, hn, hb, hS⟩ := HM.out.apart1 (r := writerR b l) (b := q) (cs := [.int .i64 (x : Int)]) (by with_reducible repeat first | exact ph | apply pt) (by with_reducible repeat first | exact ph | apply pt); refine (wnumber_any w1 b q l [x] (by omega) (by simp) hb hn (by simpa using HX.out) hC).mono ?_; rintro e w2 ⟨rfl, hU⟩; rw [numsL_one] at hU; replace HM := Hd (hS _ _ hU); clear hC hn hb hS hU C; go_wp2_with fail; go_end0
 exact ⟨rfl, (HM.out.pick (r := writerR b (l ++ numL x)) pk).upd⟩
theorem lay_is {A : Nat → Prop} (w : World) (b : Nat) (l : List UInt8) (s : Sd) (hl : l.length ≤ 1073741000) (h : (writerR b l).p A w) : LayC A w b l .is s := by
 have HM := Hd (Mem.start h); have HP := Hd (show Part.lay .is s = truL s.is from rfl); unfold LayC; rw [HP.out]; unfold Sd.v Sd.cells; clear h HP; show Calls _ 263 _ _ _
 go_enter Tryz.func263, Tryz.ntmps263
 have fM := HM.out.fa; go_wp2_with fail; all_goals clear fM
 refine nxt HM fun w1 M => ?_
 replace HM := M; clear M; obtain ⟨C, hC, hS⟩ := (HM.out.pick (r := writerR b l) pk).step; refine (wtruth_any w1 b l s.is (by omega) hC).mono ?_; rintro e w2 ⟨rfl, hU⟩; replace HM := Hd (hS _ _ hU); clear hC hS hU C; go_wp2_with fail; go_end0
 exact ⟨rfl, (HM.out.pick (r := writerR b (l ++ truL s.is)) pk).upd⟩
theorem lay_said {A : Nat → Prop} (w : World) (b : Nat) (l : List UInt8) (s : Sd) (hl : l.length ≤ 1073741000) (hs : s.text.length ≤ 200) (h : (writerR b l).p A w) : LayC A w b l .said s := by
 have HM := Hd (Mem.start h); have HP := Hd (show Part.lay .said s = txtL s.text from rfl); unfold LayC; rw [HP.out]; unfold Sd.v Sd.cells; clear h HP; show Calls _ 255 _ _ _
 go_enter Tryz.func255, Tryz.ntmps255
 have fM := HM.out.fa; go_wp2_with fail; all_goals clear fM
 refine nxt HM fun w1 M => ?_
 replace HM := M; clear M; obtain ⟨C, hC, hS⟩ := (HM.out.pick (r := writerR b l) pk).step; refine (wtext_any w1 b l s.text (by omega) (by omega) hC).mono ?_; rintro e w2 ⟨rfl, hU⟩; replace HM := Hd (hS _ _ hU); clear hC hS hU C; go_wp2_with fail; go_end0
 exact ⟨rfl, (HM.out.pick (r := writerR b (l ++ txtL s.text)) pk).upd⟩
theorem lay_token {A : Nat → Prop} (w : World) (b : Nat) (l : List UInt8) (s : Sd) (hl : l.length ≤ 1073741000) (hs : s.token.length ≤ 200) (h : (writerR b l).p A w) : LayC A w b l .token s := by
 have HM := Hd (Mem.start h); have HP := Hd (show Part.lay .token s = txtL s.token from rfl); unfold LayC; rw [HP.out]; unfold Sd.v Sd.cells; clear h HP; show Calls _ 244 _ _ _
 go_enter Tryz.func244, Tryz.ntmps244
 have fM := HM.out.fa; go_wp2_with fail; all_goals clear fM
 refine nxt HM fun w1 M => ?_
 replace HM := M; clear M; obtain ⟨C, hC, hS⟩ := (HM.out.pick (r := writerR b l) pk).step; refine (wtext_any w1 b l s.token (by omega) (by omega) hC).mono ?_; rintro e w2 ⟨rfl, hU⟩; replace HM := Hd (hS _ _ hU); clear hC hS hU C; go_wp2_with fail; go_end0
 exact ⟨rfl, (HM.out.pick (r := writerR b (l ++ txtL s.token)) pk).upd⟩
theorem lay_entry {A : Nat → Prop} (w : World) (b : Nat) (l : List UInt8) (s : Sd) (hl : l.length ≤ 1073740000) (h1 : 0 ≤ s.e.kind ∧ s.e.kind ≤ 4) (h2 : 0 ≤ s.e.member ∧ s.e.member ≤ 15) (h3 : s.e.kind = 4 → 0 ≤ s.e.number ∧ s.e.number ≤ 2147483647 ∧ s.e.text.length ≤ 200) (h : (writerR b l).p A w) : LayC A w b l .entry s := by
 have HM := Hd (Mem.start h); obtain ⟨x, hx⟩ : ∃ x : Nat, s.e.kind = x := ⟨s.e.kind.toNat, by omega⟩; obtain ⟨y, hy⟩ : ∃ y : Nat, s.e.member = y := ⟨s.e.member.toNat, by omega⟩
 have HX := Hd (show ∀ n ∈ [x, y], n ≤ topN by
  intro n hn; simp at hn; unfold topN; rcases hn with rfl | rfl <;> omega)
 have HL := Hd (show (numL x).length ≤ 10 ∧ (numL y).length ≤ 10 from ⟨(numL_len x).2, (numL_len y).2⟩); have HP0 := Hd (show Part.lay .entry s = numL x ++ numL y ++ (if s.e.kind = 4 then numL s.e.number.toNat ++ txtL s.e.text else []) by show numL s.e.kind.toNat ++ numL s.e.member.toNat ++ _ = _; rw [hx, hy]; rfl); unfold LayC; show Calls _ 270 _ _ _
 by_cases h4 : s.e.kind = 4
 · obtain ⟨z, hz⟩ : ∃ z : Nat, s.e.number = z := ⟨s.e.number.toNat, by have := h3 h4; omega⟩
   have HZ := Hd (show z ≤ topN ∧ s.e.text.length ≤ 200 by have := h3 h4; unfold topN; omega); have HP := Hd (show Part.lay .entry s = (numL x ++ numL y) ++ (numL z ++ txtL s.e.text) by rw [HP0.out, if_pos h4, hz]; rfl); have HX4 := Hd (show (x : Int) = 4 by omega); rw [HP.out]; unfold Sd.v Sd.cells; rw [hx, hy, hz]; clear h h1 h2 h3 hx hy hz h4 HP HP0; go_enter Tryz.func270, Tryz.ntmps270
   have fM := HM.out.fa; go_wp2_with fail; all_goals clear fM
   obtain ⟨q, hq⟩ : ∃ q, w.heap.size + 1 + 1 = q := ⟨_, rfl⟩; refine nxt HM fun w1 M => ?_
   replace HM := M; clear M; rw [hq] at HM ⊢; clear hq; obtain ⟨C, hC, hn, hb, hS⟩ := HM.out.apart1 (r := writerR b l) (b := q) (cs := [.int .i64 (x : Int), .int .i64 (y : Int)]) (by with_reducible repeat first | exact ph | apply pt) (by with_reducible repeat first | exact ph | apply pt); refine (wnumber_any w1 b q l [x, y] (by omega) (by simp) hb hn HX.out hC).mono ?_; rintro e w2 ⟨rfl, hU⟩; rw [numsL_two] at hU; replace HM := Hd (hS _ _ hU); clear hC hn hb hS hU C; obtain ⟨l2, hl2⟩ : ∃ l2, l ++ (numL x ++ numL y) = l2 := ⟨_, rfl⟩; have HL2 := Hd (show l2 = l ++ (numL x ++ numL y) ∧ l2.length ≤ 1073741000 from ⟨hl2.symm, by rw [← hl2, List.length_append, List.length_append]; have := HL.out; omega⟩); rw [hl2] at HM; clear hl2; have hx4 := HX4.out; have fM := HM.out.fa; go_wp2_with fail; all_goals clear fM
   clear hx4; obtain ⟨q2, hq2⟩ : ∃ q, w2.heap.size = q := ⟨_, rfl⟩; refine nxt HM fun w3 M => ?_
   replace HM := M; clear M; rw [hq2] at HM ⊢; clear hq2; obtain ⟨C, hC, hn, hb, hS⟩ := HM.out.apart1 (r := writerR b l2) (b := q2) (cs := [.int .i64 (z : Int)]) (by with_reducible repeat first | exact ph | apply pt) (by with_reducible repeat first | exact ph | apply pt); refine (wnumber_any w3 b q2 l2 [z] (by have := HL2.out; omega) (by simp) hb hn (by simpa using HZ.out.1) hC).mono ?_; rintro e w4 ⟨rfl, hU⟩; rw [numsL_one] at hU; replace HM := Hd (hS _ _ hU); clear hC hn hb hS hU C; have fM := HM.out.fa; go_wp2_with fail; all_goals clear fM
   refine nxt HM fun w5 M => ?_
   replace HM := M; clear M; obtain ⟨C, hC, hS⟩ := (HM.out.pick (r := writerR b (l2 ++ numL z)) pk).step; refine (wtext_any w5 b (l2 ++ numL z) s.e.text (by have := HL2.out; have := numL_len z; rw [List.length_append]; omega) (by have := HZ.out; omega) hC).mono ?_; rintro e w6 ⟨rfl, hU⟩; replace HM := Hd (hS _ _ hU); clear hC hS hU C; go_wp2_with fail; go_end0
   rw [show l ++ (numL x ++ numL y ++ (numL z ++ txtL s.e.text)) = l2 ++ numL z ++ txtL s.e.text by rw [HL2.out.1]; simp]; exact ⟨rfl, (HM.out.pick (r := writerR b (l2 ++ numL z ++ txtL s.e.text)) pk).upd⟩
 · have HP := Hd (show Part.lay .entry s = (numL x ++ numL y) by rw [HP0.out, if_neg h4, List.append_nil])
   have HX4 := Hd (show ¬ (x : Int) = 4 by omega); rw [HP.out]; unfold Sd.v Sd.cells; rw [hx, hy]; clear h h1 h2 h3 hx hy h4 HP HP0; go_enter Tryz.func270, Tryz.ntmps270
   have fM := HM.out.fa; go_wp2_with fail; all_goals clear fM
   obtain ⟨q, hq⟩ : ∃ q, w.heap.size + 1 + 1 = q := ⟨_, rfl⟩; refine nxt HM fun w1 M => ?_
   replace HM := M; clear M; rw [hq] at HM ⊢; clear hq; obtain ⟨C, hC, hn, hb, hS⟩ := HM.out.apart1 (r := writerR b l) (b := q) (cs := [.int .i64 (x : Int), .int .i64 (y : Int)]) (by with_reducible repeat first | exact ph | apply pt) (by with_reducible repeat first | exact ph | apply pt); refine (wnumber_any w1 b q l [x, y] (by omega) (by simp) hb hn HX.out hC).mono ?_; rintro e w2 ⟨rfl, hU⟩; rw [numsL_two] at hU; replace HM := Hd (hS _ _ hU); clear hC hn hb hS hU C; have hx4 := HX4.out; have fM := HM.out.fa; go_wp2_with fail; all_goals clear fM
   go_end0
   exact ⟨rfl, (HM.out.pick (r := writerR b (l ++ (numL x ++ numL y))) pk).upd⟩
theorem chk_200 {l : List UInt8} (h : chk l = 0) : l.length ≤ 200 := by
 rcases Nat.lt_or_ge 200 l.length with h1 | h1
 · unfold chk at h; rw [if_pos h1] at h; cases h
 · exact h1
theorem Part.lay_len (p : Part) (s : Sd) (hm : p.may s = true) : (p.lay s).length ≤ 300 := by
 cases p <;> unfold Part.lay <;> unfold Part.may at hm <;> dsimp only at hm ⊢
 · have := (numL_len s.member.toNat).2; omega
 · have := (numL_len s.number.toNat).2; omega
 · have := (numL_len s.index.toNat).2; omega
 · simp [truL]
 · have h := chk_200 (l := s.text) (by simpa using hm)
   have := (numL_len s.text.length).2; unfold txtL; rw [List.length_append]; omega
 · have h := of_decide_eq_true hm
   have := (numL_len s.token.length).2; unfold txtL; rw [List.length_append]; omega
 · rw [Bool.and_eq_true] at hm
   have g1 := (numL_len s.e.kind.toNat).2; have g2 := (numL_len s.e.member.toNat).2; have g3 := (numL_len s.e.number.toNat).2; have g4 := (numL_len s.e.text.length).2; rw [List.length_append, List.length_append]; split
   · rename_i h4
     have h5 := hm.2; unfold enB at h5; rw [if_neg (by omega), if_neg (by omega), if_pos h4] at h5; unfold sayB at h5; simp only [Bool.and_eq_true] at h5; have h6 := chk_200 (l := s.e.text) (by simpa using h5.2); unfold txtL; rw [List.length_append, List.length_append]; omega
   · simp only [List.length_nil]; omega
theorem enB_bounds {e : En} (hk : e.kind ≠ 1) (h : enB e = true) : (0 ≤ e.kind ∧ e.kind ≤ 4) ∧ (0 ≤ e.member ∧ e.member ≤ 15) ∧ (e.kind = 4 → 0 ≤ e.number ∧ e.number ≤ 2147483647 ∧ e.text.length ≤ 200) := by
 unfold enB at h; rw [if_neg hk] at h; split at h
 · rename_i h2
   rw [Bool.and_eq_true] at h; have h3 := h.1; unfold memB at h3; simp only [Bool.and_eq_true, decide_eq_true_eq] at h3; exact ⟨by omega, by omega, fun h => by omega⟩
 · split at h
   · rename_i h4
     unfold sayB at h; simp only [Bool.and_eq_true, decide_eq_true_eq] at h; have h3 := h.1.1.1; unfold memB at h3; simp only [Bool.and_eq_true, decide_eq_true_eq] at h3; have h6 := chk_200 (l := e.text) (by simpa using h.2); exact ⟨by omega, by omega, fun _ => ⟨by omega, by omega, h6⟩⟩
   · cases h
theorem lay_any {A : Nat → Prop} (w : World) (b : Nat) (l : List UInt8) (p : Part) (s : Sd) (hl : l.length ≤ 1073740000) (hm : p.may s = true) (hp : ∀ n, p = .number n → 0 ≤ n) (h : (writerR b l).p A w) : LayC A w b l p s := by
 cases p <;> unfold Part.may at hm <;> dsimp only at hm
 · have := of_decide_eq_true hm
   exact lay_member w b l 0 s (by omega) (by omega) (by omega) h
 · rename_i n
   have := of_decide_eq_true hm; have := hp n rfl; exact lay_number w b l n s (by omega) (by omega) (by omega) h
 · have := of_decide_eq_true hm
   exact lay_index w b l 0 s (by omega) (by omega) (by omega) h
 · exact lay_is w b l s (by omega) h
 · exact lay_said w b l s (by omega) (chk_200 (by simpa using hm)) h
 · exact lay_token w b l s (by omega) (of_decide_eq_true hm) h
 · rw [Bool.and_eq_true] at hm
   obtain ⟨h1, h2, h3⟩ := enB_bounds (of_decide_eq_true hm.1) hm.2; exact lay_entry w b l s hl h1 h2 h3 h
def saidE : Ending := .panicked [{ v := .iface 24 (.int .i64 340), recovered := false }]
theorem fmust_any (w : World) (x : Bool) : Calls Tryz.prog 234 #[.bool x] w fun e w' => e = (if x then .returned (.tuple #[]) else saidE) ∧ w' = w := by
 cases x
 · go_enter Tryz.func234, Tryz.ntmps234
   go_wp2_with fail; exact ⟨rfl, rfl, rfl⟩
 · go_enter Tryz.func234, Tryz.ntmps234
   go_wp2_with fail; go_end0
   exact ⟨rfl, rfl⟩
abbrev rdV (b : Nat) : Value := .agg #[.pointer (some ⟨b, 0, none⟩)]
theorem fnum_any {A : Nat → Prop} (w : World) (b : Nat) (r : Rdr) (g : Int) (hg : 0 ≤ g) (hl : r.b.length ≤ 70368744177664) (h : (readerR b r).p A w) :
 Calls Tryz.prog 233 #[rdV b, .int .i64 g] w fun e w' => e = (if (r.num g).1.e = 0 then .returned (.int .i64 ((r.num g).2.1 : Int)) else saidE) ∧ Upd A w w' (readerR b (r.num g).1) := by
 have hno := r.num_e' g hg; obtain ⟨⟨r1, n, no⟩, hq⟩ : ∃ q, r.num g = q := ⟨_, rfl⟩; have HQ := Hd hq; rw [hq] at hno ⊢; dsimp only at hno ⊢; clear hq; have HM := Hd (Mem.start h); have HLL := Hd hl; clear h hl; go_enter Tryz.func233, Tryz.ntmps233
 have fM := HM.out.fa; go_wp2_with fail; all_goals clear fM
 refine nxt HM fun w1 M => ?_
 replace HM := M; clear M; obtain ⟨C, hC, hS⟩ := (HM.out.pick (r := readerR b r) pk).step; refine (rnumber_any w1 b g r HLL.out hC).mono ?_; rintro e w2 ⟨rfl, hU⟩; replace HM := Hd (hS _ _ hU); rw [HQ.out] at HM ⊢; dsimp only at HM ⊢; clear hU hS hC C; by_cases he : no = 0
 · have he2 : r1.e = 0 := by rw [← hno]; exact he
   have HE2 := Hd he2; subst he; clear hno he2; have fM := HM.out.fa; go_wp2_with fail; all_goals clear fM
   refine (fmust_any _ _).mono ?_; rintro e w' ⟨rfl, hwq⟩; rw [hwq]; clear hwq w'; simp only [if_true]; go_wp2_with fail; go_ret; try rw [if_pos HE2.out]
   exact ⟨rfl, (HM.out.pick (r := readerR b r1) pk).upd⟩
 · have he2 : ¬ r1.e = 0 := by rw [← hno]; exact he
   have HE2 := Hd he2; have he3 : (no == 0) = false := by simpa using he
   clear hno he2 he; have fM := HM.out.fa; go_wp2_with fail; all_goals clear fM
   refine (fmust_any _ _).mono ?_; rintro e w' ⟨rfl, hwq⟩; rw [hwq]; clear hwq w'; simp only [Bool.false_eq_true, if_false, saidE]; go_wp2_with fail; try rw [if_neg HE2.out]
   exact ⟨rfl, rfl, (HM.out.pick (r := readerR b r1) pk).upd⟩
theorem ftxt_any {A : Nat → Prop} (w : World) (b : Nat) (r : Rdr) (g : Int) (hg : 0 ≤ g) (hl : r.b.length ≤ 70368744177664) (h : (readerR b r).p A w) :
 Calls Tryz.prog 247 #[rdV b, .int .i64 g] w fun e w' => e = (if (r.txt g).1.e = 0 then .returned (.string (bs (r.txt g).2.1)) else saidE) ∧ Upd A w w' (readerR b (r.txt g).1) := by
 have hno := r.txt_e' g hg; obtain ⟨⟨r1, n, no⟩, hq⟩ : ∃ q, r.txt g = q := ⟨_, rfl⟩; have HQ := Hd hq; rw [hq] at hno ⊢; dsimp only at hno ⊢; clear hq; have HM := Hd (Mem.start h); have HLL := Hd hl; clear h hl; go_enter Tryz.func247, Tryz.ntmps247
 have fM := HM.out.fa; go_wp2_with fail; all_goals clear fM
 refine nxt HM fun w1 M => ?_
 replace HM := M; clear M; obtain ⟨C, hC, hS⟩ := (HM.out.pick (r := readerR b r) pk).step; refine (rtext_any w1 b g r HLL.out hC).mono ?_; rintro e w2 ⟨rfl, hU⟩; replace HM := Hd (hS _ _ hU); rw [HQ.out] at HM ⊢; dsimp only at HM ⊢; clear hU hS hC C; by_cases he : no = 0
 · have he2 : r1.e = 0 := by rw [← hno]; exact he
   have HE2 := Hd he2; subst he; clear hno he2; have fM := HM.out.fa; go_wp2_with fail; all_goals clear fM
   refine (fmust_any _ _).mono ?_; rintro e w' ⟨rfl, hwq⟩; rw [hwq]; clear hwq w'; simp only [if_true]; go_wp2_with fail; go_ret; try rw [if_pos HE2.out]
   exact ⟨rfl, (HM.out.pick (r := readerR b r1) pk).upd⟩
 · have he2 : ¬ r1.e = 0 := by rw [← hno]; exact he
   have HE2 := Hd he2; have he3 : (no == 0) = false := by simpa using he
   clear hno he2 he; have fM := HM.out.fa; go_wp2_with fail; all_goals clear fM
   refine (fmust_any _ _).mono ?_; rintro e w' ⟨rfl, hwq⟩; rw [hwq]; clear hwq w'; simp only [Bool.false_eq_true, if_false, saidE]; go_wp2_with fail; try rw [if_neg HE2.out]
   exact ⟨rfl, rfl, (HM.out.pick (r := readerR b r1) pk).upd⟩
def takeF : Part → Nat
 | .member => 241
 | .number _ => 252
 | .index => 260
 | .is => 265
 | .said => 256
 | .token => 246
 | .entry => 271
def TakeP (A : Nat → Prop) (w : World) (b sb : Nat) (p : Part) (r : Rdr) (s : Sd) (e : Ending) (w' : World) : Prop :=
 e = (if (p.take r s).1.e = 0 then .returned (.tuple #[]) else saidE) ∧ ∃ s' : Sd, ((p.take r s).1.e = 0 → s' = (p.take r s).2) ∧ Upd A w w' (listR [readerR b (p.take r s).1, cellsR sb 37 s'.cells])
theorem take_member {A : Nat → Prop} (w : World) (b sb : Nat) (n : Int) (r : Rdr) (s : Sd) (hl : r.b.length ≤ 70368744177664) (h : SepL [readerR b r, cellsR sb 37 s.cells] A w) :
 Calls Tryz.prog 241 #[rdV b, .pointer (some ⟨sb, 0, none⟩)] w (TakeP A w b sb .member r s) := by
 obtain ⟨⟨r1, x, no⟩, hq⟩ : ∃ q, r.num 15 = q := ⟨_, rfl⟩; have HQ := Hd hq; have HP := Hd (show Part.take .member r s = (r1, { s with member := x }) by show ((r.num 15).1, { s with member := (r.num 15).2.1 }) = _; rw [hq]); clear hq; have HM := Hd (Mem.start (F := A) (r := listR [readerR b r, cellsR sb 37 s.cells]) h).unlist; simp only [List.cons_append, List.nil_append] at HM; have HLL := Hd hl; unfold Sd.cells at HM; clear h hl; go_enter Tryz.func241, Tryz.ntmps241
 have fM := HM.out.fa; go_wp2_with fail; all_goals clear fM
 refine nxt HM fun w1 M => ?_
 replace HM := M; clear M; obtain ⟨C, hC, hS⟩ := (HM.out.pick (r := readerR b r) pk).step; refine (fnum_any w1 b r 15 (by decide) HLL.out hC).mono ?_; rintro e w2 ⟨rfl, hU⟩; replace HM := Hd (hS _ _ hU); rw [HQ.out] at HM ⊢; dsimp only at HM ⊢; clear hU hS hC C; by_cases he : r1.e = 0
 · rw [if_pos he]
   have HE := Hd he; clear he; have fM := HM.out.fa; go_wp2_with fail; all_goals clear fM
   go_end0
   unfold TakeP; rw [HP.out]; dsimp only; rw [if_pos HE.out]; refine ⟨rfl, { s with member := x }, fun _ => rfl, ?_⟩; refine nxt HM fun w3 M => ?_
   replace HM := M; clear M; exact (Mem.list' (L1 := [readerR b r1, cellsR sb 37 ({ s with member := x } : Sd).cells]) (L := []) (Mem.sub HM.out (by repeat first | exact Sub.nil | refine Sub.cons (by with_reducible repeat first | exact ph | apply pt) ?_))).upd
 · rw [if_neg he]
   have HE := Hd he; clear he; unfold saidE; go_wp2_with fail; refine ⟨rfl, ?_⟩; unfold TakeP; rw [HP.out]; dsimp only; rw [if_neg HE.out]; exact ⟨rfl, s, fun h => absurd h HE.out, (Mem.list' (L1 := [readerR b r1, cellsR sb 37 s.cells]) (L := []) (Mem.sub HM.out (by repeat first | exact Sub.nil | refine Sub.cons (by with_reducible repeat first | exact ph | apply pt) ?_))).upd⟩
theorem take_number {A : Nat → Prop} (w : World) (b sb : Nat) (n : Int) (r : Rdr) (s : Sd) (hl : r.b.length ≤ 70368744177664) (h : SepL [readerR b r, cellsR sb 37 s.cells] A w) :
 Calls Tryz.prog 252 #[rdV b, .pointer (some ⟨sb, 0, none⟩)] w (TakeP A w b sb (.number n) r s) := by
 obtain ⟨⟨r1, x, no⟩, hq⟩ : ∃ q, r.num 2147483647 = q := ⟨_, rfl⟩; have HQ := Hd hq; have HP := Hd (show Part.take (.number n) r s = (r1, { s with number := x }) by show ((r.num 2147483647).1, { s with number := (r.num 2147483647).2.1 }) = _; rw [hq]); clear hq; have HM := Hd (Mem.start (F := A) (r := listR [readerR b r, cellsR sb 37 s.cells]) h).unlist; simp only [List.cons_append, List.nil_append] at HM; have HLL := Hd hl; unfold Sd.cells at HM; clear h hl; go_enter Tryz.func252, Tryz.ntmps252
 have fM := HM.out.fa; go_wp2_with fail; all_goals clear fM
 refine nxt HM fun w1 M => ?_
 replace HM := M; clear M; obtain ⟨C, hC, hS⟩ := (HM.out.pick (r := readerR b r) pk).step; refine (fnum_any w1 b r 2147483647 (by decide) HLL.out hC).mono ?_; rintro e w2 ⟨rfl, hU⟩; replace HM := Hd (hS _ _ hU); rw [HQ.out] at HM ⊢; dsimp only at HM ⊢; clear hU hS hC C; by_cases he : r1.e = 0
 · rw [if_pos he]
   have HE := Hd he; clear he; have fM := HM.out.fa; go_wp2_with fail; all_goals clear fM
   go_end0
   unfold TakeP; rw [HP.out]; dsimp only; rw [if_pos HE.out]; refine ⟨rfl, { s with number := x }, fun _ => rfl, ?_⟩; refine nxt HM fun w3 M => ?_
   replace HM := M; clear M; exact (Mem.list' (L1 := [readerR b r1, cellsR sb 37 ({ s with number := x } : Sd).cells]) (L := []) (Mem.sub HM.out (by repeat first | exact Sub.nil | refine Sub.cons (by with_reducible repeat first | exact ph | apply pt) ?_))).upd
 · rw [if_neg he]
   have HE := Hd he; clear he; unfold saidE; go_wp2_with fail; refine ⟨rfl, ?_⟩; unfold TakeP; rw [HP.out]; dsimp only; rw [if_neg HE.out]; exact ⟨rfl, s, fun h => absurd h HE.out, (Mem.list' (L1 := [readerR b r1, cellsR sb 37 s.cells]) (L := []) (Mem.sub HM.out (by repeat first | exact Sub.nil | refine Sub.cons (by with_reducible repeat first | exact ph | apply pt) ?_))).upd⟩
theorem take_index {A : Nat → Prop} (w : World) (b sb : Nat) (n : Int) (r : Rdr) (s : Sd) (hl : r.b.length ≤ 70368744177664) (h : SepL [readerR b r, cellsR sb 37 s.cells] A w) :
 Calls Tryz.prog 260 #[rdV b, .pointer (some ⟨sb, 0, none⟩)] w (TakeP A w b sb .index r s) := by
 obtain ⟨⟨r1, x, no⟩, hq⟩ : ∃ q, r.num 2147483647 = q := ⟨_, rfl⟩; have HQ := Hd hq; have HP := Hd (show Part.take .index r s = (r1, { s with index := x }) by show ((r.num 2147483647).1, { s with index := (r.num 2147483647).2.1 }) = _; rw [hq]); clear hq; have HM := Hd (Mem.start (F := A) (r := listR [readerR b r, cellsR sb 37 s.cells]) h).unlist; simp only [List.cons_append, List.nil_append] at HM; have HLL := Hd hl; unfold Sd.cells at HM; clear h hl; go_enter Tryz.func260, Tryz.ntmps260
 have fM := HM.out.fa; go_wp2_with fail; all_goals clear fM
 refine nxt HM fun w1 M => ?_
 replace HM := M; clear M; obtain ⟨C, hC, hS⟩ := (HM.out.pick (r := readerR b r) pk).step; refine (fnum_any w1 b r 2147483647 (by decide) HLL.out hC).mono ?_; rintro e w2 ⟨rfl, hU⟩; replace HM := Hd (hS _ _ hU); rw [HQ.out] at HM ⊢; dsimp only at HM ⊢; clear hU hS hC C; by_cases he : r1.e = 0
 · rw [if_pos he]
   have HE := Hd he; clear he; have fM := HM.out.fa; go_wp2_with fail; all_goals clear fM
   go_end0
   unfold TakeP; rw [HP.out]; dsimp only; rw [if_pos HE.out]; refine ⟨rfl, { s with index := x }, fun _ => rfl, ?_⟩; refine nxt HM fun w3 M => ?_
   replace HM := M; clear M; exact (Mem.list' (L1 := [readerR b r1, cellsR sb 37 ({ s with index := x } : Sd).cells]) (L := []) (Mem.sub HM.out (by repeat first | exact Sub.nil | refine Sub.cons (by with_reducible repeat first | exact ph | apply pt) ?_))).upd
 · rw [if_neg he]
   have HE := Hd he; clear he; unfold saidE; go_wp2_with fail; refine ⟨rfl, ?_⟩; unfold TakeP; rw [HP.out]; dsimp only; rw [if_neg HE.out]; exact ⟨rfl, s, fun h => absurd h HE.out, (Mem.list' (L1 := [readerR b r1, cellsR sb 37 s.cells]) (L := []) (Mem.sub HM.out (by repeat first | exact Sub.nil | refine Sub.cons (by with_reducible repeat first | exact ph | apply pt) ?_))).upd⟩
theorem take_said {A : Nat → Prop} (w : World) (b sb : Nat) (n : Int) (r : Rdr) (s : Sd) (hl : r.b.length ≤ 70368744177664) (h : SepL [readerR b r, cellsR sb 37 s.cells] A w) :
 Calls Tryz.prog 256 #[rdV b, .pointer (some ⟨sb, 0, none⟩)] w (TakeP A w b sb .said r s) := by
 obtain ⟨⟨r1, x, no⟩, hq⟩ : ∃ q, r.txt 200 = q := ⟨_, rfl⟩; have HQ := Hd hq; have HP := Hd (show Part.take .said r s = (r1, { s with text := x }) by show ((r.txt 200).1, { s with text := (r.txt 200).2.1 }) = _; rw [hq]); clear hq; have HM := Hd (Mem.start (F := A) (r := listR [readerR b r, cellsR sb 37 s.cells]) h).unlist; simp only [List.cons_append, List.nil_append] at HM; have HLL := Hd hl; unfold Sd.cells at HM; clear h hl; go_enter Tryz.func256, Tryz.ntmps256
 have fM := HM.out.fa; go_wp2_with fail; all_goals clear fM
 refine nxt HM fun w1 M => ?_
 replace HM := M; clear M; obtain ⟨C, hC, hS⟩ := (HM.out.pick (r := readerR b r) pk).step; refine (ftxt_any w1 b r 200 (by decide) HLL.out hC).mono ?_; rintro e w2 ⟨rfl, hU⟩; replace HM := Hd (hS _ _ hU); rw [HQ.out] at HM ⊢; dsimp only at HM ⊢; clear hU hS hC C; by_cases he : r1.e = 0
 · rw [if_pos he]
   have HE := Hd he; clear he; have fM := HM.out.fa; go_wp2_with fail; all_goals clear fM
   go_end0
   unfold TakeP; rw [HP.out]; dsimp only; rw [if_pos HE.out]; refine ⟨rfl, { s with text := x }, fun _ => rfl, ?_⟩; refine nxt HM fun w3 M => ?_
   replace HM := M; clear M; exact (Mem.list' (L1 := [readerR b r1, cellsR sb 37 ({ s with text := x } : Sd).cells]) (L := []) (Mem.sub HM.out (by repeat first | exact Sub.nil | refine Sub.cons (by with_reducible repeat first | exact ph | apply pt) ?_))).upd
 · rw [if_neg he]
   have HE := Hd he; clear he; unfold saidE; go_wp2_with fail; refine ⟨rfl, ?_⟩; unfold TakeP; rw [HP.out]; dsimp only; rw [if_neg HE.out]; exact ⟨rfl, s, fun h => absurd h HE.out, (Mem.list' (L1 := [readerR b r1, cellsR sb 37 s.cells]) (L := []) (Mem.sub HM.out (by repeat first | exact Sub.nil | refine Sub.cons (by with_reducible repeat first | exact ph | apply pt) ?_))).upd⟩
theorem take_token {A : Nat → Prop} (w : World) (b sb : Nat) (n : Int) (r : Rdr) (s : Sd) (hl : r.b.length ≤ 70368744177664) (h : SepL [readerR b r, cellsR sb 37 s.cells] A w) :
 Calls Tryz.prog 246 #[rdV b, .pointer (some ⟨sb, 0, none⟩)] w (TakeP A w b sb .token r s) := by
 obtain ⟨⟨r1, x, no⟩, hq⟩ : ∃ q, r.txt 200 = q := ⟨_, rfl⟩; have HQ := Hd hq; have HP := Hd (show Part.take .token r s = (r1, { s with token := x }) by show ((r.txt 200).1, { s with token := (r.txt 200).2.1 }) = _; rw [hq]); clear hq; have HM := Hd (Mem.start (F := A) (r := listR [readerR b r, cellsR sb 37 s.cells]) h).unlist; simp only [List.cons_append, List.nil_append] at HM; have HLL := Hd hl; unfold Sd.cells at HM; clear h hl; go_enter Tryz.func246, Tryz.ntmps246
 have fM := HM.out.fa; go_wp2_with fail; all_goals clear fM
 refine nxt HM fun w1 M => ?_
 replace HM := M; clear M; obtain ⟨C, hC, hS⟩ := (HM.out.pick (r := readerR b r) pk).step; refine (ftxt_any w1 b r 200 (by decide) HLL.out hC).mono ?_; rintro e w2 ⟨rfl, hU⟩; replace HM := Hd (hS _ _ hU); rw [HQ.out] at HM ⊢; dsimp only at HM ⊢; clear hU hS hC C; by_cases he : r1.e = 0
 · rw [if_pos he]
   have HE := Hd he; clear he; have fM := HM.out.fa; go_wp2_with fail; all_goals clear fM
   go_end0
   unfold TakeP; rw [HP.out]; dsimp only; rw [if_pos HE.out]; refine ⟨rfl, { s with token := x }, fun _ => rfl, ?_⟩; refine nxt HM fun w3 M => ?_
   replace HM := M; clear M; exact (Mem.list' (L1 := [readerR b r1, cellsR sb 37 ({ s with token := x } : Sd).cells]) (L := []) (Mem.sub HM.out (by repeat first | exact Sub.nil | refine Sub.cons (by with_reducible repeat first | exact ph | apply pt) ?_))).upd
 · rw [if_neg he]
   have HE := Hd he; clear he; unfold saidE; go_wp2_with fail; refine ⟨rfl, ?_⟩; unfold TakeP; rw [HP.out]; dsimp only; rw [if_neg HE.out]; exact ⟨rfl, s, fun h => absurd h HE.out, (Mem.list' (L1 := [readerR b r1, cellsR sb 37 s.cells]) (L := []) (Mem.sub HM.out (by repeat first | exact Sub.nil | refine Sub.cons (by with_reducible repeat first | exact ph | apply pt) ?_))).upd⟩
theorem take_is {A : Nat → Prop} (w : World) (b sb : Nat) (r : Rdr) (s : Sd) (hl : r.b.length ≤ 70368744177664) (h : SepL [readerR b r, cellsR sb 37 s.cells] A w) :
 Calls Tryz.prog 265 #[rdV b, .pointer (some ⟨sb, 0, none⟩)] w (TakeP A w b sb .is r s) := by
 have hno := r.tru_e'; obtain ⟨⟨r1, x, no⟩, hq⟩ : ∃ q, r.tru = q := ⟨_, rfl⟩; have HQ := Hd hq; have HP := Hd (show Part.take .is r s = (r1, { s with is := x }) by show (r.tru.1, { s with is := r.tru.2.1 }) = _; rw [hq]); rw [hq] at hno; dsimp only at hno; clear hq; have HM := Hd (Mem.start (F := A) (r := listR [readerR b r, cellsR sb 37 s.cells]) h).unlist; simp only [List.cons_append, List.nil_append] at HM; have HLL := Hd hl; unfold Sd.cells at HM; clear h hl; go_enter Tryz.func265, Tryz.ntmps265
 have fM := HM.out.fa; go_wp2_with fail; all_goals clear fM
 refine nxt HM fun w1 M => ?_
 replace HM := M; clear M; obtain ⟨C, hC, hS⟩ := (HM.out.pick (r := readerR b r) pk).step; refine (rtruth_any w1 b r HLL.out hC).mono ?_; rintro e w2 ⟨rfl, hU⟩; replace HM := Hd (hS _ _ hU); rw [HQ.out] at HM ⊢; dsimp only at HM ⊢; clear hU hS hC C; by_cases he : no = 0
 · have HE := Hd (show r1.e = 0 by rw [← hno]; exact he)
   subst he; clear hno; have fM := HM.out.fa; go_wp2_with fail; all_goals clear fM
   refine (fmust_any _ _).mono ?_; rintro e w' ⟨rfl, hwq⟩; rw [hwq]; clear hwq w'; simp only [if_true]; have fM := HM.out.fa; go_wp2_with fail; all_goals clear fM
   go_end0
   unfold TakeP; rw [HP.out]; dsimp only; rw [if_pos HE.out]; refine ⟨rfl, { s with is := x }, fun _ => rfl, ?_⟩; refine nxt HM fun w3 M => ?_
   replace HM := M; clear M; exact (Mem.list' (L1 := [readerR b r1, cellsR sb 37 ({ s with is := x } : Sd).cells]) (L := []) (Mem.sub HM.out (by repeat first | exact Sub.nil | refine Sub.cons (by with_reducible repeat first | exact ph | apply pt) ?_))).upd
 · have HE := Hd (show ¬ r1.e = 0 by rw [← hno]; exact he)
   have he3 : (no == 0) = false := by simpa using he
   clear hno he; have fM := HM.out.fa; go_wp2_with fail; all_goals clear fM
   refine (fmust_any _ _).mono ?_; rintro e w' ⟨rfl, hwq⟩; rw [hwq]; clear hwq w'; simp only [Bool.false_eq_true, if_false]; unfold saidE; go_wp2_with fail; refine ⟨rfl, ?_⟩; unfold TakeP; rw [HP.out]; dsimp only; rw [if_neg HE.out]; exact ⟨rfl, s, fun h => absurd h HE.out, (Mem.list' (L1 := [readerR b r1, cellsR sb 37 s.cells]) (L := []) (Mem.sub HM.out (by repeat first | exact Sub.nil | refine Sub.cons (by with_reducible repeat first | exact ph | apply pt) ?_))).upd⟩
end Go.Proofs.YtoadjbgpfihoiaaGreatDoor
