/- Texts WRD, WRE, Signs, Laid, MapI, JC, Shelf, TA, TB, one behind the other. Conditions: as each says. -/
import Derived.Test.YtcfgnbbiljohjaaGreatDoorPkE
import Derived.Lib.TrimUEq
import Derived.Lib.ValidLaws
import Derived.Test.YtcfgnbbiljohjaaGreatDoorCards
import Derived.Test.YtcfgnbbiljohjaaGreatDoorTie
import Derived.SevenTiedAt
import Derived.LaidLaws
import Derived.LaidHandle
import Derived.Lib.LaidIn
import Derived.Lib.LaidU8T
import Derived.PinnedBridge
import Derived.Deep.DeepHandedRow
import Derived.Deep.DeepWitnessRowRef
import Derived.JoinedOf
import Derived.Test.YtcfgnbbiljohjaaGreatDoorRows
import Derived.DeepKeys5
import Derived.Maps.Own
import Derived.Ground.NamesProg
import Derived.Shelf.Unicode.ValidAny
import Derived.Shelf.Strings.Trim
import Derived.Test.YtcfgnbbiljohjaaGreatDoorProg
section
/- The document's reader: a number, a text, a truth. Condition: its bytes lie as 'RdV' says. -/
set_option linter.unusedVariables false
set_option linter.unusedSimpArgs false
set_option maxHeartbeats 4000000
set_option maxRecDepth 10000
namespace Go.Proofs.YtcfgnbbiljohjaaGreatDoor
open Go.RowKit
theorem rvnum_any {A : Nat → Prop} (w : World) (r : Rdr) (x : Value) (g : Int) (hl : r.b.length ≤ 70368744177664) (h : RdV A w r x) (hA : ∀ k, A k → k < w.heap.size) :
    Calls Tryz.prog 75 #[x, .int .i64 g] w fun e w' => (∃ y, e = .returned (.tuple #[y, .int .i64 ((r.num g).2.1 : Int), .int .i64 (r.num g).2.2]) ∧ RdV A w' (r.num g).1 y) ∧ Ext w w' := by
  by_cases hr : r.e = 0
  case neg =>
    have hq : r.num g = (r, 0, r.e) := by unfold Rdr.num; rw [if_pos hr]
    have HQ := Lib.hid hq
    obtain ⟨a, c, rfl, hb⟩ := h
    have HB := Lib.hid hb
    have HA := Lib.hid hA
    have HLL := Lib.hid hl
    have HM := Lib.hid (Mem.start0 w)
    obtain ⟨l, e0⟩ := r
    dsimp only at HB HLL ⊢
    clear hb hA hl
    have hr' : (e0 == 0) = false := by simpa using hr
    clear hr hq
    go_enter Tryz.func75, Tryz.ntmps75
    have fM := HM.out.fa
    go_wp2_with fail
    all_goals clear fM
    refine nxt HM fun w1 M => ?_
    clear HM; have HM := M; clear M
    have fM := HM.out.fa
    have hE0 : Keeps (OneB (w.heap.size + 1)) w1 w1.drew := (Keeps.refl _ _).drew
    refine wp_region_plan [(3, 0), (0, 1), (1, 2), (2, 3), (0, 4), (0, 5)] [2] [3] [] (ClsK (OneB (w.heap.size + 1)) w1) (by kernel_rfl) (by kernel_rfl) (by kernel_rfl) rfl rfl (ClsK.of hE0) (fun _ _ _ d _ h => by cases d <;> exact h) ?_; simp only [planL, nL]
    refine pX (v := ?_) rfl ?_ ?_; rotate_left; (go_simp <;> with_reducible rfl); simp only [nP]
    refine pR (v := ?_) rfl (fun W => ?_) ?_; rotate_left; (go_simp <;> with_reducible rfl); simp only [nP]
    refine pK (v := ?_) rfl (fun W => ?_) ?_; rotate_left; (go_simp <;> with_reducible rfl); simp only [nP]
    refine plan_does rfl (fun K hK => ?_)
    go_wp2_with fail
    refine ⟨ClsK.of (by repeat (first | assumption | exact Keeps.refl _ _ | refine Keeps.alloc ?_ _ | refine Keeps.setOne ?_ _ _ | refine Keeps.setCell ?_ _ _ (.inl (by first | rfl | exact .inl rfl | exact .inr rfl | omega)) | refine Keeps.drew ?_)), ?_⟩; try simp only [nP]
    refine pA _ rfl rfl ?_; simp only [nP, Act.eval]
    refine pA _ rfl rfl ?_; simp only [nP, nE]
    refine plan_nil ?_; simp only [tailL, List.filterMap_nil]
    go_wp2_with fail
    clear fM
    clear hE0
    refine nxt HM fun w3 M => ?_
    clear HM; have HM := M; clear M
    obtain ⟨Ahb, hb⟩ := HM.out.get (r := cellsR (w.heap.size + 1) 89 [.slice a l.length c, .int .i64 e0]) (by with_reducible repeat first | exact ph | apply pt)
    have hcc := hb.2.reads.1
    clear hb
    refine bodyPost_ret (v := .tuple #[.agg [.slice a l.length c, .int .i64 e0].toArray, .int .i64 0, .int .i64 e0]) (by simp [results, Tryz.results75, go_sem, hcc]) rfl ?_
    clear hcc
    rw [HQ.out]
    exact ⟨⟨_, rfl, RdV.ext ⟨a, c, rfl, HB.out⟩ HM.out.extTo⟩, HM.out.extTo⟩
  have hne : ¬ r.e ≠ 0 := by simpa using hr
  by_cases hg : g < 0
  · have hq : r.num g = (r, 0, 2) := by unfold Rdr.num; rw [if_neg hne, if_pos hg]
    have HQ := Lib.hid hq
    obtain ⟨a, c, rfl, hb⟩ := h
    have HB := Lib.hid hb
    have HA := Lib.hid hA
    have HLL := Lib.hid hl
    have HM := Lib.hid (Mem.start0 w)
    obtain ⟨l, e0⟩ := r
    dsimp only at HB HLL ⊢
    clear hb hA hl
    dsimp only at hr
    subst hr
    clear hq hne
    go_enter Tryz.func75, Tryz.ntmps75
    have fM := HM.out.fa
    go_wp2_with fail
    all_goals clear fM
    refine nxt HM fun w3 M => ?_
    clear HM; have HM := M; clear M
    obtain ⟨Ahb, hb⟩ := HM.out.get (r := cellsR (w.heap.size + 1) 89 [.slice a l.length c, .int .i64 0]) (by with_reducible repeat first | exact ph | apply pt)
    have hcc := hb.2.reads.1
    clear hb
    refine bodyPost_ret (v := .tuple #[.agg [.slice a l.length c, .int .i64 0].toArray, .int .i64 0, .int .i64 2]) (by simp [results, Tryz.results75, go_sem, hcc]) rfl ?_
    clear hcc
    rw [HQ.out]
    exact ⟨⟨_, rfl, RdV.ext ⟨a, c, rfl, HB.out⟩ HM.out.extTo⟩, HM.out.extTo⟩
  have hq0 : r.num g = if 0 < (takeL r.b).2 ∧ ((takeL r.b).1 : Int) ≤ g then (⟨r.b.drop (takeL r.b).2.toNat, 0⟩, (takeL r.b).1, 0) else (Rdr.bad, 0, 120) := by unfold Rdr.num; rw [if_neg hne, if_neg hg]
  have HQ := Lib.hid hq0
  obtain ⟨a, c, rfl, hb⟩ := h
  have HB := Lib.hid hb
  have HA := Lib.hid hA
  have HLL := Lib.hid hl
  have HM := Lib.hid (Mem.start0 w)
  obtain ⟨l, e0⟩ := r
  dsimp only at HB HLL ⊢
  clear hb hA hl
  dsimp only at hr
  subst hr
  clear hq0 hne
  go_enter Tryz.func75, Tryz.ntmps75
  have fM := HM.out.fa
  go_wp2_with fail
  all_goals clear fM
  refine nxt HM fun w1 M => ?_
  clear HM; have HM := M; clear M
  refine (rtake_any w1 _ l HLL.out (HB.out.ext HM.out.extTo)).mono ?_
  rintro e w' ⟨rfl, hwq⟩
  rw [hwq]
  clear hwq w'
  obtain ⟨hk1, hk2, hk3⟩ := takeL_k l
  obtain ⟨k, hk⟩ : ∃ k, (takeL l).2 = k := ⟨_, rfl⟩
  obtain ⟨n, hn⟩ : ∃ n, (takeL l).1 = n := ⟨_, rfl⟩
  rw [hk, hn] at HQ ⊢
  rw [hk] at hk1 hk2 hk3
  clear hk hn
  by_cases hk : 0 < k ∧ (n : Int) ≤ g
  · rw [if_pos hk] at HQ
    obtain ⟨kn, rfl⟩ : ∃ kn : Nat, k = kn := ⟨k.toNat, by omega⟩
    rw [Int.toNat_natCast] at HQ
    have g1 : ¬ (kn : Int) ≤ 0 := by omega
    have g2 : ¬ g < (n : Int) := by omega
    have hkl : kn ≤ l.length := by omega
    have hsl := fun W => slice_l W a l.length c kn hkl
    have hb1 := HB.out.part kn l.length hkl (Nat.le_refl _)
    rw [List.take_length] at hb1
    obtain ⟨a2, c2, e2⟩ := part_len (a := a) (i := kn) (j := l.length) (c := c) (s := 1)
    rw [e2] at hsl hb1
    rw [show l.length - kn = (l.drop kn).length by rw [List.length_drop]] at hsl hb1
    obtain ⟨d, hd⟩ : ∃ d, l.drop kn = d := ⟨_, rfl⟩
    rw [hd] at hsl hb1 HQ
    have HB1 := Lib.hid hb1
    clear hk hk1 hk2 hk3 hb1 e2 hd hkl
    have fM := HM.out.fa
    go_wp2_with fail
    all_goals clear fM
    refine nxt HM fun w3 M => ?_
    clear HM; have HM := M; clear M
    obtain ⟨Ahb, hb⟩ := HM.out.get (r := cellsR (w.heap.size + 1) 89 [.slice a2 d.length c2, .int .i64 0]) (by with_reducible repeat first | exact ph | apply pt)
    have hcc := hb.2.reads.1
    clear hb
    refine bodyPost_ret (v := .tuple #[.agg [.slice a2 d.length c2, .int .i64 0].toArray, .int .i64 (n : Int), .int .i64 0]) (by simp [results, Tryz.results75, go_sem, hcc]) rfl ?_
    clear hcc
    rw [HQ.out]
    exact ⟨⟨_, rfl, RdV.ext ⟨a2, c2, rfl, HB1.out⟩ HM.out.extTo⟩, HM.out.extTo⟩
  · rw [if_neg hk] at HQ
    by_cases hk0 : k ≤ 0
    · clear hk
      have fM := HM.out.fa
      go_wp2_with fail
      all_goals clear fM
      refine nxt HM fun w2 M => ?_
      clear HM; have HM := M; clear M
      refine (rfail_any w2 _ 0 ⟨_, _, _, rfl⟩).mono ?_
      rintro e w3 ⟨rfl, hE⟩
      replace HM := Lib.hid (HM.out.ext hE)
      clear hE
      have fM := HM.out.fa
      go_wp2_with fail
      all_goals clear fM
      refine nxt HM fun w3 M => ?_
      clear HM; have HM := M; clear M
      obtain ⟨Ahb, hb⟩ := HM.out.get (r := cellsR (w.heap.size + 1) 89 [.slice none 0 0, .int .i64 120]) (by with_reducible repeat first | exact ph | apply pt)
      have hcc := hb.2.reads.1
      clear hb
      refine bodyPost_ret (v := .tuple #[.agg [.slice none 0 0, .int .i64 120].toArray, .int .i64 0, .int .i64 120]) (by simp [results, Tryz.results75, go_sem, hcc]) rfl ?_
      clear hcc
      rw [HQ.out]
      exact ⟨⟨_, rfl, RdV.bad _ _⟩, HM.out.extTo⟩
    · have g2 : g < (n : Int) := by
        rcases Int.lt_or_le g n with h | h
        · exact h
        · exact absurd ⟨by omega, h⟩ hk
      clear hk
      have fM := HM.out.fa
      go_wp2_with fail
      all_goals clear fM
      refine nxt HM fun w2 M => ?_
      clear HM; have HM := M; clear M
      refine (rfail_any w2 _ 0 ⟨_, _, _, rfl⟩).mono ?_
      rintro e w3 ⟨rfl, hE⟩
      replace HM := Lib.hid (HM.out.ext hE)
      clear hE
      have fM := HM.out.fa
      go_wp2_with fail
      all_goals clear fM
      refine nxt HM fun w3 M => ?_
      clear HM; have HM := M; clear M
      obtain ⟨Ahb, hb⟩ := HM.out.get (r := cellsR (w.heap.size + 1) 89 [.slice none 0 0, .int .i64 120]) (by with_reducible repeat first | exact ph | apply pt)
      have hcc := hb.2.reads.1
      clear hb
      refine bodyPost_ret (v := .tuple #[.agg [.slice none 0 0, .int .i64 120].toArray, .int .i64 0, .int .i64 120]) (by simp [results, Tryz.results75, go_sem, hcc]) rfl ?_
      clear hcc
      rw [HQ.out]
      exact ⟨⟨_, rfl, RdV.bad _ _⟩, HM.out.extTo⟩
theorem rvtxt_any {A : Nat → Prop} (w : World) (r : Rdr) (x : Value) (g : Int) (hl : r.b.length ≤ 70368744177664) (h : RdV A w r x) (hA : ∀ k, A k → k < w.heap.size) :
    Calls Tryz.prog 77 #[x, .int .i64 g] w fun e w' => (∃ y, e = .returned (.tuple #[y, .string (bs (r.txt g).2.1), .int .i64 (r.txt g).2.2]) ∧ RdV A w' (r.txt g).1 y) ∧ Ext w w' := by
  have hsp : r.txt g = r.txt g := rfl
  conv at hsp => rhs; unfold Rdr.txt
  have HQ := Lib.hid hsp
  have HX := Lib.hid h
  have HL0 := Lib.hid hl
  obtain ⟨q, hq⟩ : ∃ q, r.num g = q := ⟨_, rfl⟩
  have HNQ := Lib.hid hq
  have hlq : q.1.b.length ≤ r.b.length := by
    rw [← hq]
    unfold Rdr.num
    split
    · exact Nat.le_refl _
    · split
      · exact Nat.le_refl _
      · split
        · dsimp only; rw [List.length_drop]; omega
        · exact Nat.zero_le _
  rw [hq] at HQ
  clear hsp hq
  obtain ⟨r', n, no⟩ := q
  dsimp only at hlq
  have HA := Lib.hid hA
  obtain ⟨a, c, rfl, hb⟩ := h
  have HM := Lib.hid (Mem.start0 w)
  clear hb hA
  go_enter Tryz.func77, Tryz.ntmps77
  have fM := HM.out.fa
  go_wp2_with fail
  all_goals clear fM
  refine nxt HM fun w1 M => ?_
  clear HM; have HM := M; clear M
  have hsz := HM.out.keepsTo.size
  refine (rvnum_any w1 r _ g HL0.out (HX.out.ext HM.out.extTo) (fun k hk => Nat.lt_of_lt_of_le (HA.out k hk) hsz)).mono ?_
  rintro e w2 ⟨⟨y, rfl, hy⟩, hE⟩
  rw [HNQ.out] at hy ⊢
  replace HM := Lib.hid (HM.out.ext hE)
  obtain ⟨a2, c2, rfl, hb2⟩ := hy
  have HB2 := Lib.hid (hb2.swap HA.out HM.out.extTo (Keeps.refl _ w))
  obtain ⟨l, e0⟩ := r'
  dsimp only at HB2 HQ hlq ⊢
  have HLQ := Lib.hid hlq
  clear hE hb2 hlq hsz
  by_cases hno : no = 0
  case neg =>
    rw [if_pos hno] at HQ
    have hno' : (no == 0) = false := by simpa using hno
    clear hno
    have fM := HM.out.fa
    go_wp2_with fail
    all_goals clear fM
    refine nxt HM fun w3 M => ?_
    clear HM; have HM := M; clear M
    obtain ⟨Ahb, hb⟩ := HM.out.get (r := cellsR (w.heap.size + 1) 89 [.slice a2 l.length c2, .int .i64 e0]) (by with_reducible repeat first | exact ph | apply pt)
    have hcc := hb.2.reads.1
    clear hb
    refine bodyPost_ret (v := .tuple #[.agg [.slice a2 l.length c2, .int .i64 e0].toArray, .string ⟨#[]⟩, .int .i64 no]) (by simp [results, Tryz.results77, go_sem, hcc]) rfl ?_
    clear hcc
    rw [HQ.out]
    exact ⟨⟨_, rfl, RdV.ext ⟨a2, c2, rfl, HB2.out⟩ HM.out.extTo⟩, HM.out.extTo⟩
  subst hno
  rw [if_neg (by simp)] at HQ
  by_cases hn : n ≤ l.length
  case neg =>
    rw [if_neg hn] at HQ
    have hn' : (l.length : Int) < (n : Int) := by omega
    clear hn
    have fM := HM.out.fa
    go_wp2_with fail
    all_goals clear fM
    refine nxt HM fun w4 M => ?_
    clear HM; have HM := M; clear M
    refine (rfail_any w4 _ _ ⟨_, _, _, rfl⟩).mono ?_
    rintro e w5 ⟨rfl, hE⟩
    replace HM := Lib.hid (HM.out.ext hE)
    clear hE
    have fM := HM.out.fa
    go_wp2_with fail
    all_goals clear fM
    refine nxt HM fun w3 M => ?_
    clear HM; have HM := M; clear M
    obtain ⟨Ahb, hb⟩ := HM.out.get (r := cellsR (w.heap.size + 1) 89 [.slice none 0 0, .int .i64 120]) (by with_reducible repeat first | exact ph | apply pt)
    have hcc := hb.2.reads.1
    clear hb
    refine bodyPost_ret (v := .tuple #[.agg [.slice none 0 0, .int .i64 120].toArray, .string ⟨#[]⟩, .int .i64 120]) (by simp [results, Tryz.results77, go_sem, hcc]) rfl ?_
    clear hcc
    rw [HQ.out]
    exact ⟨⟨_, rfl, RdV.bad _ _⟩, HM.out.extTo⟩
  rw [if_pos hn] at HQ
  have hn' : ¬ (l.length : Int) < (n : Int) := by omega
  have hcap := HB2.out.cap
  have hsl := fun W => slice_l W a2 l.length c2 n hn
  have hsh := fun W => slice_h W a2 l.length c2 n (by omega)
  have hb1 := HB2.out.part n l.length hn (Nat.le_refl _)
  have hb0 := HB2.out.part 0 n (by omega) hn
  rw [List.take_length] at hb1
  rw [List.drop_zero] at hb0
  obtain ⟨a3, c3, e3⟩ := part_len (a := a2) (i := n) (j := l.length) (c := c2) (s := 1)
  obtain ⟨a4, c4, e4⟩ := part_len (a := a2) (i := 0) (j := n) (c := c2) (s := 1)
  rw [e3] at hsl hb1
  rw [e4, Nat.sub_zero] at hsh hb0
  rw [show l.length - n = (l.drop n).length by rw [List.length_drop]] at hsl hb1
  obtain ⟨d, hd⟩ : ∃ d, l.drop n = d := ⟨_, rfl⟩
  obtain ⟨s, hs⟩ : ∃ s, l.take n = s := ⟨_, rfl⟩
  have hsn : s.length = n := by rw [← hs, List.length_take]; omega
  rw [hd] at hsl hb1 HQ
  rw [hs] at hb0 HQ
  have HB1 := Lib.hid hb1
  have HB0 := Lib.hid hb0
  clear hb1 hb0 e3 e4 hd hs hn hcap
  have fM := HM.out.fa
  go_wp2_with fail
  all_goals clear fM
  refine nxt HM fun w4 M => ?_
  clear HM; have HM := M; clear M
  have hE4 := HM.out.extTo
  have hkk : ∀ y : KeepsW (OneB (w.heap.size + 1)) w4, (convert 30 9 (.slice a4 n c4)).run Tryz.prog y.w = .ok (.string (bs s)) y.w := fun y =>
    ((HB0.out.ext hE4).keeps y.h (fun k hk he => by have := HA.out k hk; have : k = w.heap.size + 1 := he; omega)).str
  clear hE4
  have fM := HM.out.fa
  have hE0 : Keeps (OneB (w.heap.size + 1)) w4 w4.drew := (Keeps.refl _ _).drew
  refine wp_region_plan [(0, 0), (3, 1), (0, 2), (0, 3), (0, 4), (0, 5), (1, 6), (0, 7), (0, 8), (1, 9), (2, 10), (0, 11), (0, 12)] [6, 9] [10] [] (ClsK (OneB (w.heap.size + 1)) w4) (by kernel_rfl) (by kernel_rfl) (by kernel_rfl) rfl rfl (ClsK.of hE0) (fun _ _ _ d _ h => by cases d <;> exact h) ?_; simp only [planL, nL]
  refine pR (v := ?_) rfl (fun W => ?_) ?_; rotate_left; (go_simp <;> with_reducible rfl); simp only [nP]
  refine pX (v := ?_) rfl ?_ ?_; rotate_left; (go_simp <;> with_reducible rfl); simp only [nP]
  refine pM _ rfl rfl ?_; simp only [nP, nE]
  iterate 3 (refine pR (v := ?_) rfl (fun W => ?_) ?_; rotate_left; (go_simp <;> with_reducible rfl); simp only [nP])
  refine pK (v := ?_) rfl (fun W => ?_) ?_; rotate_left; (go_simp <;> with_reducible rfl); simp only [nP]
  refine pM _ rfl rfl ?_; simp only [nP, nE]
  refine pR (v := ?_) rfl (fun W => ?_) ?_; rotate_left; (go_simp <;> with_reducible rfl); simp only [nP]
  refine pK (v := ?_) rfl (fun W => ?_) ?_; rotate_left; (go_simp <;> with_reducible rfl); simp only [nP]
  refine plan_does rfl (fun K hK => ?_)
  go_wp2_with fail
  refine ⟨ClsK.of (by repeat (first | assumption | exact Keeps.refl _ _ | refine Keeps.alloc ?_ _ | refine Keeps.setOne ?_ _ _ | refine Keeps.setCell ?_ _ _ (.inl (by first | rfl | exact .inl rfl | exact .inr rfl | omega)) | refine Keeps.drew ?_)), ?_⟩; try simp only [nP]
  refine pA _ rfl rfl ?_; simp only [nP, nE]
  refine pA _ rfl rfl ?_; simp only [nP, Act.eval]
  refine plan_nil ?_; simp only [tailL, List.filterMap_nil]
  go_wp2_with fail
  clear fM
  clear hE0
  refine nxt HM fun w3 M => ?_
  clear HM; have HM := M; clear M
  obtain ⟨Ahb, hb⟩ := HM.out.get (r := cellsR (w.heap.size + 1) 89 [.slice a3 d.length c3, .int .i64 0]) (by with_reducible repeat first | exact ph | apply pt)
  have hcc := hb.2.reads.1
  clear hb
  refine bodyPost_ret (v := .tuple #[.agg [.slice a3 d.length c3, .int .i64 0].toArray, .string (bs s), .int .i64 0]) (by simp [results, Tryz.results77, go_sem, hcc]) rfl ?_
  clear hcc
  rw [HQ.out]
  exact ⟨⟨_, rfl, RdV.ext ⟨a3, c3, rfl, HB1.out⟩ HM.out.extTo⟩, HM.out.extTo⟩
end Go.Proofs.YtcfgnbbiljohjaaGreatDoor
end
section
/- The document's reader: a truth. Condition: its bytes lie as 'RdV' says. -/
set_option linter.unusedVariables false
set_option linter.unusedSimpArgs false
set_option maxHeartbeats 4000000
set_option maxRecDepth 10000
namespace Go.Proofs.YtcfgnbbiljohjaaGreatDoor
open Go.RowKit
theorem rvtru_any {A : Nat → Prop} (w : World) (r : Rdr) (x : Value) (hl : r.b.length ≤ 70368744177664) (h : RdV A w r x) (hA : ∀ k, A k → k < w.heap.size) :
    Calls Tryz.prog 42 #[x] w fun e w' => (∃ y, e = .returned (.tuple #[y, .bool r.tru.2.1, .int .i64 r.tru.2.2]) ∧ RdV A w' r.tru.1 y) ∧ Ext w w' := by
  obtain ⟨l, e0⟩ := r
  by_cases hr : e0 = 0
  case neg =>
    have hq : Rdr.tru ⟨l, e0⟩ = (⟨l, e0⟩, false, e0) := by unfold Rdr.tru; exact if_pos hr
    have HQ := Lib.hid hq
    obtain ⟨a, c, rfl, hb⟩ := h
    have HB := Lib.hid hb
    have HA := Lib.hid hA
    have HLL := Lib.hid hl
    have HM := Lib.hid (Mem.start0 w)
    clear hb hA hl
    dsimp only at HB ⊢
    have hr' : (e0 == 0) = false := by simpa using hr
    clear hr hq
    go_enter Tryz.func42, Tryz.ntmps42
    have fM := HM.out.fa
    go_wp2_with fail
    all_goals clear fM
    refine nxt HM fun w1 M => ?_
    clear HM; have HM := M; clear M
    have fM := HM.out.fa
    have hE0 : Keeps (OneB (w.heap.size + 1)) w1 w1.drew := (Keeps.refl _ _).drew
    refine wp_region_plan [(3, 0), (0, 1), (1, 2), (2, 3), (0, 4), (0, 5)] [2] [3] [] (ClsK (OneB (w.heap.size + 1)) w1) (by kernel_rfl) (by kernel_rfl) (by kernel_rfl) rfl rfl (ClsK.of hE0) (fun _ _ _ d _ h => by cases d <;> exact h) ?_; simp only [planL, nL]
    refine pX (v := ?_) rfl ?_ ?_; rotate_left; (go_simp <;> with_reducible rfl); simp only [nP]
    refine pR (v := ?_) rfl (fun W => ?_) ?_; rotate_left; (go_simp <;> with_reducible rfl); simp only [nP]
    refine pK (v := ?_) rfl (fun W => ?_) ?_; rotate_left; (go_simp <;> with_reducible rfl); simp only [nP]
    refine plan_does rfl (fun K hK => ?_)
    go_wp2_with fail
    refine ⟨ClsK.of (by repeat (first | assumption | exact Keeps.refl _ _ | refine Keeps.alloc ?_ _ | refine Keeps.setOne ?_ _ _ | refine Keeps.setCell ?_ _ _ (.inl (by first | rfl | exact .inl rfl | exact .inr rfl | omega)) | refine Keeps.drew ?_)), ?_⟩; try simp only [nP]
    refine pA _ rfl rfl ?_; simp only [nP, Act.eval]
    refine pA _ rfl rfl ?_; simp only [nP, nE]
    refine plan_nil ?_; simp only [tailL, List.filterMap_nil]
    go_wp2_with fail
    clear fM
    clear hE0
    refine nxt HM fun w3 M => ?_
    clear HM; have HM := M; clear M
    obtain ⟨Ahb, hb⟩ := HM.out.get (r := cellsR (w.heap.size + 1) 89 [.slice a l.length c, .int .i64 e0]) (by with_reducible repeat first | exact ph | apply pt)
    have hcc := hb.2.reads.1
    clear hb
    refine bodyPost_ret (v := .tuple #[.agg [.slice a l.length c, .int .i64 e0].toArray, .bool false, .int .i64 e0]) (by simp [results, Tryz.results42, go_sem, hcc]) rfl ?_
    clear hcc
    rw [HQ.out]
    exact ⟨⟨_, rfl, RdV.ext ⟨a, c, rfl, HB.out⟩ HM.out.extTo⟩, HM.out.extTo⟩
  subst hr
  cases l with
  | nil =>
    have HQ := Lib.hid (show Rdr.tru ⟨[], 0⟩ = (Rdr.bad, false, 120) from rfl)
    obtain ⟨a, c, rfl, hb⟩ := h
    have HB := Lib.hid hb
    have HA := Lib.hid hA
    have HLL := Lib.hid hl
    have HM := Lib.hid (Mem.start0 w)
    clear hb hA hl
    go_enter Tryz.func42, Tryz.ntmps42
    have fM := HM.out.fa
    go_wp2_with fail
    all_goals clear fM
    refine nxt HM fun w2 M => ?_
    clear HM; have HM := M; clear M
    refine (rfail_any w2 _ 0 ⟨_, _, _, rfl⟩).mono ?_
    rintro e w3 ⟨rfl, hE⟩
    replace HM := Lib.hid (HM.out.ext hE)
    clear hE
    have fM := HM.out.fa
    go_wp2_with fail
    all_goals clear fM
    refine nxt HM fun w3 M => ?_
    clear HM; have HM := M; clear M
    obtain ⟨Ahb, hb⟩ := HM.out.get (r := cellsR (w.heap.size + 1) 89 [.slice none 0 0, .int .i64 120]) (by with_reducible repeat first | exact ph | apply pt)
    have hcc := hb.2.reads.1
    clear hb
    refine bodyPost_ret (v := .tuple #[.agg [.slice none 0 0, .int .i64 120].toArray, .bool false, .int .i64 120]) (by simp [results, Tryz.results42, go_sem, hcc]) rfl ?_
    clear hcc
    rw [HQ.out]
    exact ⟨⟨_, rfl, RdV.bad _ _⟩, HM.out.extTo⟩
  | cons z l =>
    obtain ⟨m, hm⟩ : ∃ m, z :: l = m := ⟨_, rfl⟩
    have hm1 : 1 ≤ m.length := by rw [← hm]; simp
    by_cases hc : z.toNat ≤ 1
    · have hq : Rdr.tru ⟨z :: l, 0⟩ = (⟨l, 0⟩, z.toNat == 1, 0) := by
        unfold Rdr.tru
        exact (if_neg (by simp)).trans (if_pos hc)
      have HQ := Lib.hid hq
      clear hq
      rw [hm] at h hl HQ ⊢
      have HMM := Lib.hid hm
      obtain ⟨a, c, rfl, hb⟩ := h
      have HB := Lib.hid hb
      have HA := Lib.hid hA
      have HLL := Lib.hid hl
      have HM := Lib.hid (Mem.start0 w)
      clear hb hA hl
      dsimp only at HB HLL ⊢
      have hcap := HB.out.cap
      have hsl : ∀ W, (Instr.sliceAt 30 (.slice a m.length c) (some (.int .i64 1)) none none).run Tryz.prog W = .ok (sliced a 1 m.length c 1) W := fun W => slice_l W a m.length c 1 hm1
      have hb1 := HB.out.part 1 m.length hm1 (Nat.le_refl _)
      rw [List.take_length, ← hm] at hb1
      have hb1' : Bytes w A (sliced a 1 (z :: l).length c 1) l := hb1
      rw [hm] at hb1'
      obtain ⟨a3, c3, e3⟩ := part_len (a := a) (i := 1) (j := m.length) (c := c) (s := 1)
      rw [e3] at hsl hb1'
      rw [show m.length - 1 = l.length by rw [← hm]; simp] at hsl hb1'
      have HB1 := Lib.hid hb1'
      obtain ⟨g, o, rfl, hAg, hg, hcl⟩ := HB.out.at 0 hm1
      have hcl' : w.cell? ⟨g, o, none⟩ = some (.int .u8 (z.toNat : Int)) := by subst hm; exact hcl
      have hc1 : ¬ (1 : Int) < (z.toNat : Int) := by omega
      have hcc : ((z.toNat : Int) == 1) = (z.toNat == 1) := by rw [Bool.eq_iff_iff]; simp; omega
      have g1 : (0 : Int) < (m.length : Int) := by omega
      have g0 : ((m.length : Int) == 0) = false := by simpa using (by omega : ¬ (m.length : Int) = 0)
      clear hb1 hb1' hcl e3 hAg hm hcap
      go_enter Tryz.func42, Tryz.ntmps42
      have fM := HM.out.fa
      go_wp2_with fail
      all_goals clear fM
      refine nxt HM fun w1 M => ?_
      clear HM; have HM := M; clear M
      have hgl : w1.cell? ⟨g, o, none⟩ = some (.int .u8 (z.toNat : Int)) := (HM.out.extTo).cell hcl'
      have hgs : g < w1.heap.size := Nat.lt_of_lt_of_le hg HM.out.extTo.size
      have hgn : ¬ g = w.heap.size + 1 := by omega
      have hgn' : ¬ w.heap.size + 1 = g := by omega
      have g3 : 0 < m.length := hm1
      clear hcl' hg
      have fM := HM.out.fa
      have hE0 : Keeps (OneB (w.heap.size + 1)) w1 w1.drew := (Keeps.refl _ _).drew
      refine wp_region_plan [(0, 0), (3, 1), (0, 2), (0, 3), (0, 4), (1, 5), (0, 6), (1, 7), (0, 8), (2, 9), (0, 10), (0, 11)] [5, 7] [9] [] (ClsK (OneB (w.heap.size + 1)) w1) (by kernel_rfl) (by kernel_rfl) (by kernel_rfl) rfl rfl (ClsK.of hE0) (fun _ _ _ d _ h => by cases d <;> exact h) ?_; simp only [planL, nL]
      refine pR (v := ?_) rfl (fun W => ?_) ?_; rotate_left; (go_simp <;> with_reducible rfl); simp only [nP]
      refine pX (v := ?_) rfl ?_ ?_; rotate_left; (go_simp <;> with_reducible rfl); simp only [nP]
      iterate 3 (refine pR (v := ?_) rfl (fun W => ?_) ?_; rotate_left; (go_simp <;> with_reducible rfl); simp only [nP])
      refine pK (v := ?_) rfl (fun W => ?_) ?_; rotate_left; (go_simp <;> with_reducible rfl); simp only [nP]
      refine pR (v := ?_) rfl (fun W => ?_) ?_; rotate_left; (go_simp <;> with_reducible rfl); simp only [nP]
      refine pK (v := ?_) rfl (fun W => ?_) ?_; rotate_left; (go_simp <;> with_reducible rfl); simp only [nP]
      refine pR (v := ?_) rfl (fun W => ?_) ?_; rotate_left; (go_simp <;> with_reducible rfl); simp only [nP]
      refine plan_does rfl (fun K hK => ?_)
      go_wp2_with fail
      refine ⟨ClsK.of (by repeat (first | assumption | exact Keeps.refl _ _ | refine Keeps.alloc ?_ _ | refine Keeps.setOne ?_ _ _ | refine Keeps.setCell ?_ _ _ (.inl (by first | rfl | exact .inl rfl | exact .inr rfl | omega)) | refine Keeps.drew ?_)), ?_⟩; try simp only [nP]
      refine pA _ rfl rfl ?_; simp only [nP, nE]
      refine pA _ rfl rfl ?_; simp only [nP, Act.eval]
      refine plan_nil ?_; simp only [tailL, List.filterMap_nil]
      go_wp2_with fail
      clear fM
      clear hE0 hgl hgs hgn hgn'
      refine nxt HM fun w3 M => ?_
      clear HM; have HM := M; clear M
      obtain ⟨Ahb, hb⟩ := HM.out.get (r := cellsR (w.heap.size + 1) 89 [.slice a3 l.length c3, .int .i64 0]) (by with_reducible repeat first | exact ph | apply pt)
      have hcc := hb.2.reads.1
      clear hb
      refine bodyPost_ret (v := .tuple #[.agg [.slice a3 l.length c3, .int .i64 0].toArray, .bool (z.toNat == 1), .int .i64 0]) (by simp [results, Tryz.results42, go_sem, hcc]) rfl ?_
      clear hcc
      rw [HQ.out]
      exact ⟨⟨_, rfl, RdV.ext ⟨a3, c3, rfl, HB1.out⟩ HM.out.extTo⟩, HM.out.extTo⟩
    · have hq : Rdr.tru ⟨z :: l, 0⟩ = (Rdr.bad, false, 120) := by
        unfold Rdr.tru
        exact (if_neg (by simp)).trans (if_neg hc)
      have HQ := Lib.hid hq
      clear hq
      rw [hm] at h hl HQ ⊢
      have HMM := Lib.hid hm
      obtain ⟨a, c, rfl, hb⟩ := h
      have HB := Lib.hid hb
      have HA := Lib.hid hA
      have HLL := Lib.hid hl
      have HM := Lib.hid (Mem.start0 w)
      clear hb hA hl
      dsimp only at HB HLL ⊢
      obtain ⟨g, o, rfl, hAg, hg, hcl⟩ := HB.out.at 0 hm1
      have hcl' : w.cell? ⟨g, o, none⟩ = some (.int .u8 (z.toNat : Int)) := by subst hm; exact hcl
      have hc1 : (1 : Int) < (z.toNat : Int) := by omega
      have g1 : (0 : Int) < (m.length : Int) := by omega
      have g0 : ((m.length : Int) == 0) = false := by simpa using (by omega : ¬ (m.length : Int) = 0)
      clear hcl hAg hm
      go_enter Tryz.func42, Tryz.ntmps42
      have fM := HM.out.fa
      go_wp2_with fail
      all_goals clear fM
      refine nxt HM fun w2 M => ?_
      clear HM; have HM := M; clear M
      refine (rfail_any w2 _ 0 ⟨_, _, _, rfl⟩).mono ?_
      rintro e w3 ⟨rfl, hE⟩
      replace HM := Lib.hid (HM.out.ext hE)
      clear hE
      have fM := HM.out.fa
      go_wp2_with fail
      all_goals clear fM
      refine nxt HM fun w3 M => ?_
      clear HM; have HM := M; clear M
      obtain ⟨Ahb, hb⟩ := HM.out.get (r := cellsR (w.heap.size + 1) 89 [.slice none 0 0, .int .i64 120]) (by with_reducible repeat first | exact ph | apply pt)
      have hcc := hb.2.reads.1
      clear hb
      refine bodyPost_ret (v := .tuple #[.agg [.slice none 0 0, .int .i64 120].toArray, .bool false, .int .i64 120]) (by simp [results, Tryz.results42, go_sem, hcc]) rfl ?_
      clear hcc
      rw [HQ.out]
      exact ⟨⟨_, rfl, RdV.bad _ _⟩, HM.out.extTo⟩
end Go.Proofs.YtcfgnbbiljohjaaGreatDoor
end
section
/- The signs of a text, byte by byte, as the document counts them, and as the model decodes them. No program is named here. -/
set_option linter.unusedVariables false
set_option linter.unusedSimpArgs false
namespace Go.Proofs.YtcfgnbbiljohjaaGreatDoor
open Go.Lib

/-- the sign with which bytes begin, how many bytes it has; (0, 0): none does -/
def sgn (l : List UInt8) : Nat × Nat := if decodeL l = (65533, 1) then (0, 0) else decodeL l
structure Sg where
  at' : Nat
  size : Nat
  n : Nat
  broken : Bool
def Sg.bad (x : Sg) : Bool := decide (x.n < 32) || (decide (127 ≤ x.n) && decide (x.n ≤ 159))
def signsF (l : List UInt8) : Nat → Nat → List Sg
  | 0, _ => []
  | f + 1, p => if p < l.length then (if (sgn (l.drop p)).2 = 0 then ⟨p, 1, 65533, true⟩ :: signsF l f (p + 1) else ⟨p, (sgn (l.drop p)).2, (sgn (l.drop p)).1, false⟩ :: signsF l f (p + (sgn (l.drop p)).2)) else []
def signsL (l : List UInt8) : List Sg := signsF l l.length 0
def blankB (l : List UInt8) : Bool := l.isEmpty || l.head? == some 32 || l.getLast? == some 32
/-- the number of what is wrong with a text, 0: nothing -/
def chk (l : List UInt8) : Nat := if 200 < l.length then 3 else if (signsL l).any (·.broken) then 130 else if (signsL l).any (·.bad) then 131 else if blankB l then 132 else 0

theorem decodeL_pos (l : List UInt8) : 1 ≤ (decodeL l).2 := by rw [decodeL_N]; exact decodeN_ge1 _ _ _ _ _
theorem sgn_zero (l : List UInt8) : (sgn l).2 = 0 ↔ decodeL l = (65533, 1) := by
  unfold sgn
  constructor
  · intro h
    by_cases h1 : decodeL l = (65533, 1)
    · exact h1
    · rw [if_neg h1] at h
      have := decodeL_pos l
      omega
  · intro h
    rw [if_pos h]
theorem sgn_some {l : List UInt8} (h : (sgn l).2 ≠ 0) : sgn l = decodeL l := by
  unfold sgn at h ⊢
  by_cases h1 : decodeL l = (65533, 1)
  · rw [if_pos h1] at h; exact absurd rfl h
  · rw [if_neg h1]
/-- one step of the signs, by what the model decodes -/
theorem signsF_step (l : List UInt8) (f p : Nat) (h : p < l.length) : signsF l (f + 1) p = ⟨p, (decodeL (l.drop p)).2, (decodeL (l.drop p)).1, decide (decodeL (l.drop p) = (65533, 1))⟩ :: signsF l f (p + (decodeL (l.drop p)).2) := by
  rw [signsF, if_pos h]
  by_cases h1 : decodeL (l.drop p) = (65533, 1)
  · rw [if_pos ((sgn_zero _).2 h1), h1]; rfl
  · have h2 : (sgn (l.drop p)).2 ≠ 0 := fun h => h1 ((sgn_zero _).1 h)
    rw [if_neg h2, sgn_some h2, decide_eq_false h1]
theorem signsF_end (l : List UInt8) (f p : Nat) (h : ¬ p < l.length) : signsF l f p = [] := by
  cases f with
  | zero => rfl
  | succ f => rw [signsF, if_neg h]
theorem signsF_fuel (l : List UInt8) : ∀ (f g p : Nat), l.length ≤ p + f → l.length ≤ p + g → signsF l f p = signsF l g p
  | 0, g, p, hf, hg => by rw [signsF_end l 0 p (by omega), signsF_end l g p (by omega)]
  | f + 1, 0, p, hf, hg => by rw [signsF_end l _ p (by omega), signsF_end l 0 p (by omega)]
  | f + 1, g + 1, p, hf, hg => by
    by_cases h : p < l.length
    · have hw := decodeL_pos (l.drop p)
      rw [signsF_step l f p h, signsF_step l g p h, signsF_fuel l f g _ (by omega) (by omega)]
    · rw [signsF_end l _ p h, signsF_end l _ p h]
/-- a text is valid just if no sign of it is broken -/
theorem valid_signs (l : List UInt8) : ∀ (f p : Nat), l.length ≤ p + f → validD (l.drop p) = !(signsF l f p).any (·.broken)
  | 0, p, h => by
    rw [signsF_end l 0 p (by omega), List.drop_of_length_le (by omega)]; rfl
  | f + 1, p, h => by
    by_cases hp : p < l.length
    · have hne : l.drop p ≠ [] := by
        intro h0
        have := congrArg List.length h0
        rw [List.length_drop] at this
        simp at this; omega
      have hw := decodeL_pos (l.drop p)
      rw [signsF_step l f p hp, validD_step _ hne, List.any_cons, List.drop_drop, Bool.not_or]
      by_cases h1 : decodeL (l.drop p) = (65533, 1)
      · rw [if_pos (by rw [h1]; exact ⟨rfl, rfl⟩), decide_eq_true h1]; rfl
      · rw [if_neg (fun h2 => h1 (Prod.ext h2.1 h2.2)), decide_eq_false h1, valid_signs l f _ (by omega)]; rfl
    · rw [signsF_end l _ p hp, List.drop_of_length_le (by omega)]; rfl
/-- what 'sign' tells, by the ranges of the document -/
theorem sgn_N (l : List UInt8) : sgn l = if decodeN l.length (l.getD 0 0).toNat (l.getD 1 0).toNat (l.getD 2 0).toNat (l.getD 3 0).toNat = (65533, 1) then (0, 0) else decodeN l.length (l.getD 0 0).toNat (l.getD 1 0).toNat (l.getD 2 0).toNat (l.getD 3 0).toNat := by
  unfold sgn
  rw [decodeL_N]
end Go.Proofs.YtcfgnbbiljohjaaGreatDoor
end
section
/- The package variables that the rows list (unicode/utf8's two tables): a world that lays them. No law is named here. -/
set_option linter.unusedVariables false
set_option linter.unusedSimpArgs false
set_option maxRecDepth 100000
namespace Go.Proofs.YtcfgnbbiljohjaaGreatDoor
theorem own : ownKnob Tryz.prog.godebug = none := by kernel_rfl
/-- the settled world, the two variables holding what their initialisers lay -/
noncomputable def laidWorld (os : Os) : World :=
  let w0 := World.holding Tryz.prog os ⟨#[], #[], []⟩
  let put (h : Array Obj) (g : Nat) (cs : Array Value) : Array Obj := h.modify g fun
    | .cells _ t frozen => .cells cs t frozen
    | o => o
  let h1 := put w0.heap 0 (Lib.firstTab.map fun z => Value.int .u8 z).toArray
  let h2 := put h1 1 ((List.range 16).flatMap fun i => [Value.int .u8 (Lib.accLo i), Value.int .u8 (Lib.accHi i)]).toArray
  { w0 with heap := h2 }
def tables : List (String × DataW Unit) := [("unicode/utf8.acceptRanges", Rows.laid_unicode_utf8_acceptRanges), ("unicode/utf8.first", Rows.laid_unicode_utf8_first)]
theorem laid_met (os : Os) (args : Array Value) : laidMet Tryz.prog tables ((laidWorld os).forCall (fun _ _ => 0) ⟨#[], args, []⟩).memory :=
  (LaidIn.of_run (l := tables) [0, 1] 8 (by kernel_rfl) (by kernel_rfl) (by kernel_rfl) (by kernel_rfl)).met
/-- what the condition gives: each variable reads as its datum -/
def Tab (W : World) : Prop := laidMetH Tryz.prog tables W
end Go.Proofs.YtcfgnbbiljohjaaGreatDoor
end
section
/- A map from ints of a kind to values of any type, in the order of its entries: making, store of a new key, look-up. No program's function is named here. -/
set_option linter.unusedVariables false
set_option linter.unusedSimpArgs false
set_option maxRecDepth 100000
set_option maxHeartbeats 400000
namespace Go.Proofs.YtcfgnbbiljohjaaGreatDoor
open Go.RowKit Go.WideMaps Go.ChangeMaps

def I64 (n : Int) : Prop := -9223372036854775808 ≤ n ∧ n ≤ 9223372036854775807
theorem wf_i64 {a : Int} (h : I64 a) : (Lit.int .i64 a).wf = true := by
  unfold I64 at h
  simp [Lit.wf, IntKind.min, IntKind.max, IntKind.signed, IntKind.bits]; omega
theorem i64_lit (n : Int) (h : (decide (-9223372036854775808 ≤ n) && decide (n ≤ 9223372036854775807)) = true) : I64 n := by
  rw [Bool.and_eq_true] at h
  exact ⟨of_decide_eq_true h.1, of_decide_eq_true h.2⟩
/-- the block is a map with these entries, in this order -/
def MapI (w : World) (m : Nat) (D : List (Int × Value)) : Prop :=
  ∃ es clock, w.heap[m]? = some (.map es clock) ∧ Go.MapKept.Stamped es clock ∧ es.toList.map (fun e => (e.key, e.val)) = D.map (fun p => (Value.int .i64 p.1, p.2)) ∧ ∀ p ∈ D, I64 p.1
def lookI (D : List (Int × Value)) (n : Int) (z : Value) : Value × Bool := match D.find? (fun p => p.1 == n) with | some p => (p.2, true) | none => (z, false)
section
variable {P : Program} {w w' : World} {m : Nat} {D : List (Int × Value)} {T K E : TypeId} {n : Int} {v z : Value}
theorem MapI.lt (h : MapI w m D) : m < w.heap.size := let ⟨_, _, h1, _⟩ := h; (Array.getElem?_eq_some_iff.1 h1).1
theorem MapI.keeps {S : Nat → Prop} (h : MapI w m D) (hk : Keeps S w w') (hs : ¬ S m) : MapI w' m D := by
  have hl := h.lt
  obtain ⟨es, c, h1, h2⟩ := h
  exact ⟨es, c, (hk.block m hl hs).trans h1, h2⟩
theorem MapI.ext (h : MapI w m D) (hk : Ext w w') : MapI w' m D := h.keeps hk (noB _)
theorem mapi_new (w : World) : MapI (w.alloc (.map #[] 0)) w.heap.size [] :=
  ⟨#[], 0, World.alloc_heap_new w _, by unfold Go.MapKept.Stamped; simp, rfl, by simp⟩
theorem int_key (hK : P.underlying K = some (.int .i64)) (hn : I64 n) : keyOf P K (.int .i64 n) = some (.int .i64 n) := Go.Maps.keyOf_int_mk hK (wf_i64 hn)
theorem mapi_get {es : List MapEntry} {j : Nat} {e : MapEntry} (h : es.map (fun e => (e.key, e.val)) = D.map (fun p => (Value.int .i64 p.1, p.2))) (he : es[j]? = some e) : ∃ p, D[j]? = some p ∧ e.key = .int .i64 p.1 ∧ e.val = p.2 := by
  have h1 := congrArg (·[j]?) h
  simp only [List.getElem?_map, he, Option.map_some] at h1
  cases hd : D[j]? with
  | none => rw [hd] at h1; simp at h1
  | some p =>
    rw [hd] at h1
    simp at h1
    exact ⟨p, rfl, h1.1, h1.2⟩
theorem mapi_mem {es : List MapEntry} (h : es.map (fun e => (e.key, e.val)) = D.map (fun p => (Value.int .i64 p.1, p.2))) {e : MapEntry} (he : e ∈ es) : ∃ p ∈ D, e.key = .int .i64 p.1 ∧ e.val = p.2 := by
  obtain ⟨j, hj, rfl⟩ := List.getElem_of_mem he
  obtain ⟨p, h1, h2⟩ := mapi_get h (List.getElem?_eq_getElem hj)
  exact ⟨p, List.mem_of_getElem? h1, h2⟩
theorem mapi_find (hK : P.underlying K = some (.int .i64)) {es : List MapEntry} (h : es.map (fun e => (e.key, e.val)) = D.map (fun p => (Value.int .i64 p.1, p.2))) (hD : ∀ p ∈ D, I64 p.1) (hn : I64 n) :
    ((Instr.findKey K (.int .i64 n) es).run P w = .ok none w ∧ ∀ p ∈ D, p.1 ≠ n) ∨ ∃ j p, (Instr.findKey K (.int .i64 n) es).run P w = .ok (some (j, p.2)) w ∧ D[j]? = some p ∧ p.1 = n := by
  have hl := int_key hK hn
  have hkeys : ∀ e ∈ es, ∃ l, keyOf P K e.key = some l := fun e he => by
    obtain ⟨p, hp, hk, _⟩ := mapi_mem h he
    rw [hk]
    exact ⟨_, int_key hK (hD p hp)⟩
  rcases (Go.Maps.int_keyed hK).find w hl es hkeys with ⟨h1, h2⟩ | ⟨j, e, h1, h2, h3⟩
  · refine .inl ⟨h1, fun p hm hp => ?_⟩
    obtain ⟨j, hj, hjd⟩ := List.getElem_of_mem hm
    have hlen : es.length = D.length := by simpa using congrArg List.length h
    obtain ⟨q, hq, hk, _⟩ := mapi_get (D := D) h (List.getElem?_eq_getElem (show j < es.length by omega))
    rw [List.getElem?_eq_getElem hj, hjd] at hq
    cases hq
    exact h2 _ (List.getElem_mem _) (by rw [hk, hp])
  · obtain ⟨p, hp, hk, hv⟩ := mapi_get h h2
    rw [hv] at h1
    refine .inr ⟨j, p, h1, hp, ?_⟩
    rw [h3] at hk
    simpa using hk.symm
/-- a store at a new key -/
theorem MapI.put (h : MapI w m D) (hT : P.underlying T = some (.map K E)) (hK : P.underlying K = some (.int .i64)) (hn : I64 n) (hne : ∀ p ∈ D, p.1 ≠ n) (v : Value) :
    ∃ w', (Instr.mapUpdate T (.map (some m)) (.int .i64 n) v).run P w = .ok () w' ∧ MapI w' m (D ++ [(n, v)]) ∧ Keeps (OneB m) w w' := by
  obtain ⟨es, clock, h1, h2, h3, h4⟩ := h
  have hl := int_key hK hn
  rcases mapi_find (w := w) hK h3 h4 hn with ⟨h5, h6⟩ | ⟨j, p, h5, h6, h7⟩
  · refine ⟨setBlock w m (.map (es.push ⟨.int .i64 n, v, clock⟩) (clock + 1)), by simp [Instr.mapUpdate, run_underlying hT, Go.MapKept.run_getObj_map h1, (Go.Maps.int_keyed hK).check w _ hl, h5, Go.MapKept.run_setObj_map _ h1, Result.andThen, setBlock], ?_, ?_⟩
    · refine ⟨_, _, Go.ChangeMaps.heap_setBlock_same h1 _, Go.MapKept.stamped_push h2 (fun x hx he => ?_), ?_, ?_⟩
      · obtain ⟨p, hp, hk, _⟩ := mapi_mem h3 hx
        rw [hk] at he
        exact hne p hp (by simpa using he)
      · rw [Array.toList_push, List.map_append, h3, List.map_append]; rfl
      · intro p hp
        rcases List.mem_append.1 hp with hp | hp
        · exact h4 p hp
        · obtain rfl := List.mem_singleton.1 hp; exact hn
    · exact ⟨rfl, rfl, rfl, by simp [setBlock], fun i _ hi => Go.ChangeMaps.heap_setBlock_other h1 _ hi⟩
  · exact absurd h7 (hne p (List.mem_of_getElem? h6))
/-- a look-up, by the entries that do (each key stands once) -/
theorem MapI.look (h : MapI w m D) (hT : P.underlying T = some (.map K E)) (hK : P.underlying K = some (.int .i64)) (hz : ∀ w, (zeroValue E).run P w = .ok z w) (hn : I64 n) (hD : D.Pairwise (fun p q => p.1 ≠ q.1)) (ok : Bool) :
    (Instr.lookup T (.map (some m)) (.int .i64 n) ok).run P w = .ok (if ok then .tuple #[(lookI D n z).1, .bool (lookI D n z).2] else (lookI D n z).1) w := by
  obtain ⟨es, clock, h1, h2, h3, h4⟩ := h
  have hl := int_key hK hn
  rcases mapi_find (w := w) hK h3 h4 hn with ⟨h5, h6⟩ | ⟨j, p, h5, h6, h7⟩
  · have hf : lookI D n z = (z, false) := by
      unfold lookI
      rw [List.find?_eq_none.2 fun p hp => by simpa using h6 p hp]
    rw [hf]
    cases ok <;> simp [Instr.lookup, run_underlying hT, Go.MapKept.run_getObj_map h1, (Go.Maps.int_keyed hK).check w _ hl, h5, hz, Result.andThen]
  · have hm := List.mem_of_getElem? h6
    have hf : lookI D n z = (p.2, true) := by
      unfold lookI
      have : D.find? (fun p => p.1 == n) = some p := by
        rw [List.find?_eq_some_iff_getElem]
        obtain ⟨hj, hje⟩ := List.getElem?_eq_some_iff.1 h6
        refine ⟨by simpa using h7, j, hj, hje, fun k hk => ?_⟩
        have := List.pairwise_iff_getElem.1 hD k j (by omega) hj hk
        rw [hje, h7] at this
        simpa using this
      rw [this]
    rw [hf]
    cases ok <;> simp [Instr.lookup, run_underlying hT, Go.MapKept.run_getObj_map h1, (Go.Maps.int_keyed hK).check w _ hl, h5, hz, Result.andThen]
end
end Go.Proofs.YtcfgnbbiljohjaaGreatDoor
end
section
/- May an entry be? acceptor.Right and what it stands on. Condition: of an entry that says something, that text.Check answers as the document's. -/
set_option linter.unusedVariables false
set_option linter.unusedSimpArgs false
set_option maxHeartbeats 400000
set_option maxRecDepth 10000
namespace Go.Proofs.YtcfgnbbiljohjaaGreatDoor
open Go.RowKit

structure En where
  kind : Int
  member : Int
  number : Int
  text : List UInt8
deriving DecidableEq
def En.cells (e : En) : List Value := [.int .i64 e.kind, .int .i64 e.member, .int .i64 e.number, .string (bs e.text)]
def En.v (e : En) : Value := .agg #[.int .i64 e.kind, .int .i64 e.member, .int .i64 e.number, .string (bs e.text)]
def memB (m : Int) : Bool := decide (0 ≤ m) && decide (m < 16)
def aloneB (e : En) : Bool := decide (e = ⟨e.kind, e.member, 0, []⟩)
theorem bs_inj {l l' : List UInt8} (h : bs l = bs l') : l = l' := by
  have := congrArg (fun s : ByteArray => s.data.toList) h
  simpa [bs_data] using this
/-- an entry with nothing but kind and member, and how else: what a comparison asks in turn -/
theorem alone_cases (e : En) : (e.number = 0 ∧ (bs e.text).toList = [] ∧ aloneB e = true) ∨ (e.number = 0 ∧ ¬ (bs e.text).toList = [] ∧ aloneB e = false) ∨ (¬ e.number = 0 ∧ aloneB e = false) := by
  obtain ⟨k, m, n, t⟩ := e
  rw [bs_toList]
  unfold aloneB
  by_cases hn : n = 0
  · by_cases ht : t = []
    · exact .inl ⟨hn, ht, by subst hn ht; simp⟩
    · exact .inr (.inl ⟨hn, ht, by simp [ht]⟩)
  · exact .inr (.inr ⟨hn, by simp [hn]⟩)

theorem acc_all2 (w : World) (b : Nat) (x y : Bool) (hb : Box w b 4 [.bool x, .bool y]) : Calls Tryz.prog 142 #[.slice (some ⟨b, 0, none⟩) 2 2] w fun e w' => e = .returned (.bool (x && y)) ∧ w' = w := by
  have HB := Lib.hid hb
  clear hb
  cases x
  · go_enter Tryz.func142, Tryz.ntmps142
    obtain ⟨cHB, zHB⟩ := HB.out.reads
    have lHB := HB.out.lt
    go_wp2_with fail
    refine wp_loop_rounds 3 ?_
    rw [rounds_succ]
    go_wp2_with fail
    go_ret
    exact ⟨rfl, rfl⟩
  · cases y
    · go_enter Tryz.func142, Tryz.ntmps142
      obtain ⟨cHB, zHB⟩ := HB.out.reads
      have lHB := HB.out.lt
      go_wp2_with fail
      refine wp_loop_rounds 4 ?_
      rw [rounds_succ]
      go_wp2_with fail
      rw [rounds_succ]
      go_wp2_with fail
      go_ret
      exact ⟨rfl, rfl⟩
    · go_enter Tryz.func142, Tryz.ntmps142
      obtain ⟨cHB, zHB⟩ := HB.out.reads
      have lHB := HB.out.lt
      go_wp2_with fail
      refine wp_loop_rounds 4 ?_
      rw [rounds_succ]
      go_wp2_with fail
      rw [rounds_succ]
      go_wp2_with fail
      rw [rounds_succ]
      go_wp2_with fail
      go_ret
      exact ⟨rfl, rfl⟩

theorem right1_any (w : World) (k : Nat) (m : Bool) (e : En) (hk : Box w k 4 [.bool m]) :
    Calls Tryz.prog 141 #[e.v, .pointer (some ⟨k, 0, none⟩)] w fun r w' => r = .returned (.bool (m && aloneB e)) ∧ Ext w w' := by
  have HB := Lib.hid hk
  clear hk
  unfold En.v
  rcases alone_cases e with ⟨h1, h2, h3⟩ | ⟨h1, h2, h3⟩ | ⟨h1, h3⟩
  · rw [h3]
    clear h3
    have HH := Lib.hid (And.intro h1 h2)
    clear h1 h2
    go_enter Tryz.func141, Tryz.ntmps141
    obtain ⟨cHB, zHB⟩ := HB.out.reads
    have lHB := HB.out.lt
    go_wp2_with fail
    have bx0 := (Box.new w 25 [.int .i64 e.kind, .int .i64 e.member, .int .i64 e.number, .string (bs e.text)])
    have ex : Ext w (w.alloc (Obj.cells #[.int .i64 e.kind, .int .i64 e.member, .int .i64 e.number, .string (bs e.text)] 25)) := ((Keeps.refl NoB w).alloc _)
    have sx : (w.alloc (Obj.cells #[.int .i64 e.kind, .int .i64 e.member, .int .i64 e.number, .string (bs e.text)] 25)).heap.size = w.heap.size + 1 := by simp
    generalize (w.alloc (Obj.cells #[.int .i64 e.kind, .int .i64 e.member, .int .i64 e.number, .string (bs e.text)] 25)) = w0 at bx0 ex sx ⊢
    have Sx := Lib.hid sx
    clear sx
    have BX := Lib.hid bx0
    clear cHB zHB lHB
    replace HB := Lib.hid (HB.out.ext ex)
    have HE := Lib.hid ex
    clear bx0 ex
    obtain ⟨cHB, zHB⟩ := HB.out.reads
    have lHB := HB.out.lt
    obtain ⟨cBX, zBX⟩ := BX.out.reads
    have lBX := BX.out.lt
    obtain ⟨h1, h2⟩ := HH.out
    have hE0 : Keeps NoB w0 w0.drew := (Keeps.refl _ _).drew
    refine wp_region_plan [(3, 0), (3, 1), (0, 2), (3, 3), (0, 4), (3, 5), (0, 6), (0, 7)] [] [8, 9, 10] [8, 9, 10] (ClsE w0) (by kernel_rfl) (by kernel_rfl) (by kernel_rfl) rfl rfl (ClsE.of hE0) (fun _ _ _ d _ h => by cases d <;> exact h) ?_; simp only [planL, nL]
    iterate 2 (refine pX (v := ?_) rfl ?_ ?_; rotate_left; (go_simp <;> with_reducible rfl); simp only [nP])
    refine pR (v := ?_) rfl (fun W => ?_) ?_; rotate_left; (go_simp <;> with_reducible rfl); simp only [nP]
    refine pX (v := ?_) rfl ?_ ?_; rotate_left; (go_simp <;> with_reducible rfl); simp only [nP]
    refine pR (v := ?_) rfl (fun W => ?_) ?_; rotate_left; (go_simp <;> with_reducible rfl); simp only [nP]
    refine pX (v := ?_) rfl ?_ ?_; rotate_left; (go_simp <;> with_reducible rfl); simp only [nP]
    iterate 2 (refine pR (v := ?_) rfl (fun W => ?_) ?_; rotate_left; (go_simp <;> with_reducible rfl); simp only [nP])
    refine plan_nil ?_; simp only [tailL, List.filterMap_cons, List.filterMap_nil, nL]; change wpList _ _ _ (_ :: _ :: _ :: []) _ _
    clear cHB zHB lHB cBX zBX lBX
    clear h1 h2
    go_wp2_with fail
    have by0 := (Box.new w0 4 [.bool m, .bool true])
    have ey : Ext w0 (w0.alloc (Obj.cells #[.bool m, .bool true] 4)) := ((Keeps.refl NoB w0).alloc _)
    have sy : (w0.alloc (Obj.cells #[.bool m, .bool true] 4)).heap.size = w0.heap.size + 1 := by simp
    generalize (w0.alloc (Obj.cells #[.bool m, .bool true] 4)) = w1 at by0 ey sy ⊢
    have Sy := Lib.hid sy
    clear sy
    have HE1 := Lib.hid ((HE.out.ext ey).drew)
    refine (acc_all2 w1.drew _ m true by0.drew).mono ?_
    rintro e' w2 ⟨rfl, rfl⟩
    clear ey by0 hE0
    go_wp2_with fail
    go_ret
    exact ⟨by simp, HE1.out⟩
  · rw [h3]
    clear h3
    have HH := Lib.hid (And.intro h1 h2)
    clear h1 h2
    go_enter Tryz.func141, Tryz.ntmps141
    obtain ⟨cHB, zHB⟩ := HB.out.reads
    have lHB := HB.out.lt
    go_wp2_with fail
    have bx0 := (Box.new w 25 [.int .i64 e.kind, .int .i64 e.member, .int .i64 e.number, .string (bs e.text)])
    have ex : Ext w (w.alloc (Obj.cells #[.int .i64 e.kind, .int .i64 e.member, .int .i64 e.number, .string (bs e.text)] 25)) := ((Keeps.refl NoB w).alloc _)
    have sx : (w.alloc (Obj.cells #[.int .i64 e.kind, .int .i64 e.member, .int .i64 e.number, .string (bs e.text)] 25)).heap.size = w.heap.size + 1 := by simp
    generalize (w.alloc (Obj.cells #[.int .i64 e.kind, .int .i64 e.member, .int .i64 e.number, .string (bs e.text)] 25)) = w0 at bx0 ex sx ⊢
    have Sx := Lib.hid sx
    clear sx
    have BX := Lib.hid bx0
    clear cHB zHB lHB
    replace HB := Lib.hid (HB.out.ext ex)
    have HE := Lib.hid ex
    clear bx0 ex
    obtain ⟨cHB, zHB⟩ := HB.out.reads
    have lHB := HB.out.lt
    obtain ⟨cBX, zBX⟩ := BX.out.reads
    have lBX := BX.out.lt
    obtain ⟨h1, h2⟩ := HH.out
    have hE0 : Keeps NoB w0 w0.drew := (Keeps.refl _ _).drew
    refine wp_region_plan [(3, 0), (3, 1), (0, 2), (3, 3), (0, 4), (3, 5), (0, 6), (0, 7)] [] [8, 9, 10] [8, 9, 10] (ClsE w0) (by kernel_rfl) (by kernel_rfl) (by kernel_rfl) rfl rfl (ClsE.of hE0) (fun _ _ _ d _ h => by cases d <;> exact h) ?_; simp only [planL, nL]
    iterate 2 (refine pX (v := ?_) rfl ?_ ?_; rotate_left; (go_simp <;> with_reducible rfl); simp only [nP])
    refine pR (v := ?_) rfl (fun W => ?_) ?_; rotate_left; (go_simp <;> with_reducible rfl); simp only [nP]
    refine pX (v := ?_) rfl ?_ ?_; rotate_left; (go_simp <;> with_reducible rfl); simp only [nP]
    refine pR (v := ?_) rfl (fun W => ?_) ?_; rotate_left; (go_simp <;> with_reducible rfl); simp only [nP]
    refine pX (v := ?_) rfl ?_ ?_; rotate_left; (go_simp <;> with_reducible rfl); simp only [nP]
    iterate 2 (refine pR (v := ?_) rfl (fun W => ?_) ?_; rotate_left; (go_simp <;> with_reducible rfl); simp only [nP])
    refine plan_nil ?_; simp only [tailL, List.filterMap_cons, List.filterMap_nil, nL]; change wpList _ _ _ (_ :: _ :: _ :: []) _ _
    clear cHB zHB lHB cBX zBX lBX
    clear h1 h2
    go_wp2_with fail
    have by0 := (Box.new w0 4 [.bool m, .bool false])
    have ey : Ext w0 (w0.alloc (Obj.cells #[.bool m, .bool false] 4)) := ((Keeps.refl NoB w0).alloc _)
    have sy : (w0.alloc (Obj.cells #[.bool m, .bool false] 4)).heap.size = w0.heap.size + 1 := by simp
    generalize (w0.alloc (Obj.cells #[.bool m, .bool false] 4)) = w1 at by0 ey sy ⊢
    have Sy := Lib.hid sy
    clear sy
    have HE1 := Lib.hid ((HE.out.ext ey).drew)
    refine (acc_all2 w1.drew _ m false by0.drew).mono ?_
    rintro e' w2 ⟨rfl, rfl⟩
    clear ey by0 hE0
    go_wp2_with fail
    go_ret
    exact ⟨by simp, HE1.out⟩
  · rw [h3]
    clear h3
    have HH := Lib.hid (And.intro h1 trivial)
    clear h1
    go_enter Tryz.func141, Tryz.ntmps141
    obtain ⟨cHB, zHB⟩ := HB.out.reads
    have lHB := HB.out.lt
    go_wp2_with fail
    have bx0 := (Box.new w 25 [.int .i64 e.kind, .int .i64 e.member, .int .i64 e.number, .string (bs e.text)])
    have ex : Ext w (w.alloc (Obj.cells #[.int .i64 e.kind, .int .i64 e.member, .int .i64 e.number, .string (bs e.text)] 25)) := ((Keeps.refl NoB w).alloc _)
    have sx : (w.alloc (Obj.cells #[.int .i64 e.kind, .int .i64 e.member, .int .i64 e.number, .string (bs e.text)] 25)).heap.size = w.heap.size + 1 := by simp
    generalize (w.alloc (Obj.cells #[.int .i64 e.kind, .int .i64 e.member, .int .i64 e.number, .string (bs e.text)] 25)) = w0 at bx0 ex sx ⊢
    have Sx := Lib.hid sx
    clear sx
    have BX := Lib.hid bx0
    clear cHB zHB lHB
    replace HB := Lib.hid (HB.out.ext ex)
    have HE := Lib.hid ex
    clear bx0 ex
    obtain ⟨cHB, zHB⟩ := HB.out.reads
    have lHB := HB.out.lt
    obtain ⟨cBX, zBX⟩ := BX.out.reads
    have lBX := BX.out.lt
    obtain ⟨h1, -⟩ := HH.out
    have hE0 : Keeps NoB w0 w0.drew := (Keeps.refl _ _).drew
    refine wp_region_plan [(3, 0), (3, 1), (0, 2), (3, 3), (0, 4), (3, 5), (0, 6), (0, 7)] [] [8, 9, 10] [8, 9, 10] (ClsE w0) (by kernel_rfl) (by kernel_rfl) (by kernel_rfl) rfl rfl (ClsE.of hE0) (fun _ _ _ d _ h => by cases d <;> exact h) ?_; simp only [planL, nL]
    iterate 2 (refine pX (v := ?_) rfl ?_ ?_; rotate_left; (go_simp <;> with_reducible rfl); simp only [nP])
    refine pR (v := ?_) rfl (fun W => ?_) ?_; rotate_left; (go_simp <;> with_reducible rfl); simp only [nP]
    refine pX (v := ?_) rfl ?_ ?_; rotate_left; (go_simp <;> with_reducible rfl); simp only [nP]
    refine pR (v := ?_) rfl (fun W => ?_) ?_; rotate_left; (go_simp <;> with_reducible rfl); simp only [nP]
    refine pX (v := ?_) rfl ?_ ?_; rotate_left; (go_simp <;> with_reducible rfl); simp only [nP]
    iterate 2 (refine pR (v := ?_) rfl (fun W => ?_) ?_; rotate_left; (go_simp <;> with_reducible rfl); simp only [nP])
    refine plan_nil ?_; simp only [tailL, List.filterMap_cons, List.filterMap_nil, nL]; change wpList _ _ _ (_ :: _ :: _ :: []) _ _
    clear cHB zHB lHB cBX zBX lBX
    clear h1
    go_wp2_with fail
    have by0 := (Box.new w0 4 [.bool m, .bool false])
    have ey : Ext w0 (w0.alloc (Obj.cells #[.bool m, .bool false] 4)) := ((Keeps.refl NoB w0).alloc _)
    have sy : (w0.alloc (Obj.cells #[.bool m, .bool false] 4)).heap.size = w0.heap.size + 1 := by simp
    generalize (w0.alloc (Obj.cells #[.bool m, .bool false] 4)) = w1 at by0 ey sy ⊢
    have Sy := Lib.hid sy
    clear sy
    have HE1 := Lib.hid ((HE.out.ext ey).drew)
    refine (acc_all2 w1.drew _ m false by0.drew).mono ?_
    rintro e' w2 ⟨rfl, rfl⟩
    clear ey by0 hE0
    go_wp2_with fail
    go_ret
    exact ⟨by simp, HE1.out⟩
theorem acc_all4 (w : World) (b : Nat) (x y z u : Bool) (hb : Box w b 4 [.bool x, .bool y, .bool z, .bool u]) : Calls Tryz.prog 142 #[.slice (some ⟨b, 0, none⟩) 4 4] w fun e w' => e = .returned (.bool (x && y && z && u)) ∧ w' = w := by
  have HB := Lib.hid hb
  clear hb
  go_enter Tryz.func142, Tryz.ntmps142
  obtain ⟨cHB, zHB⟩ := HB.out.reads
  have lHB := HB.out.lt
  go_wp2_with fail
  refine wp_loop_rounds 6 ?_
  rw [rounds_succ]
  cases x
  · go_wp2_with fail
    go_ret
    exact ⟨by simp, rfl⟩
  go_wp2_with fail
  rw [rounds_succ]
  cases y
  · go_wp2_with fail
    go_ret
    exact ⟨by simp, rfl⟩
  go_wp2_with fail
  rw [rounds_succ]
  cases z
  · go_wp2_with fail
    go_ret
    exact ⟨by simp, rfl⟩
  go_wp2_with fail
  rw [rounds_succ]
  cases u
  · go_wp2_with fail
    go_ret
    exact ⟨by simp, rfl⟩
  go_wp2_with fail
  rw [rounds_succ]
  go_wp2_with fail
  go_ret
  exact ⟨by simp, rfl⟩

def noneB (e : En) : Bool := decide (e = ⟨e.kind, 0, 0, []⟩)
theorem none_cases (e : En) : (e.member = 0 ∧ e.number = 0 ∧ (bs e.text).toList = [] ∧ noneB e = true) ∨ (e.member = 0 ∧ e.number = 0 ∧ ¬ (bs e.text).toList = [] ∧ noneB e = false) ∨ (e.member = 0 ∧ ¬ e.number = 0 ∧ noneB e = false) ∨ (¬ e.member = 0 ∧ noneB e = false) := by
  obtain ⟨k, m, n, t⟩ := e
  rw [bs_toList]
  unfold noneB
  by_cases hm : m = 0
  · by_cases hn : n = 0
    · by_cases ht : t = []
      · exact .inl ⟨hm, hn, ht, by subst hm hn ht; simp⟩
      · exact .inr (.inl ⟨hm, hn, ht, by simp [ht]⟩)
    · exact .inr (.inr (.inl ⟨hm, hn, by simp [hn]⟩))
  · exact .inr (.inr (.inr ⟨hm, by simp [hm]⟩))
theorem right2_any (w : World) (e : En) :
    Calls Tryz.prog 143 #[e.v] w fun r w' => r = .returned (.bool (noneB e)) ∧ Ext w w' := by
  unfold En.v
  go_enter Tryz.func143, Tryz.ntmps143
  go_wp2_with fail
  all_goals
    go_ret
    refine ⟨?_, (Keeps.refl _ _).alloc _⟩
    rcases none_cases e with ⟨h1, h2, h3, h4⟩ | ⟨h1, h2, h3, h4⟩ | ⟨h1, h2, h4⟩ | ⟨h1, h4⟩ <;> rw [h4] <;> first | rfl | (exfalso; simp_all)
def sayB (m : Bool) (e : En) : Bool := m && decide (1 ≤ e.number) && decide (e.number ≤ 2147483647) && (chk e.text == 0)
theorem right3_any (w : World) (k : Nat) (m : Bool) (e : En) (hk : Box w k 4 [.bool m])
    (hC : ∀ w1, Ext w w1 → Calls Tryz.prog 103 #[.string (bs e.text)] w1 fun r w' => r = .returned (.int .i64 (chk e.text : Int)) ∧ Ext w1 w') :
    Calls Tryz.prog 144 #[e.v, .pointer (some ⟨k, 0, none⟩)] w fun r w' => r = .returned (.bool (sayB m e)) ∧ Ext w w' := by
  have HB := Lib.hid hk
  have HC := Lib.hid hC
  clear hk hC
  unfold En.v
  go_enter Tryz.func144, Tryz.ntmps144
  obtain ⟨cHB, zHB⟩ := HB.out.reads
  have lHB := HB.out.lt
  go_wp2_with fail
  have bx0 := (Box.new w 25 [.int .i64 e.kind, .int .i64 e.member, .int .i64 e.number, .string (bs e.text)])
  have ex : Ext w (w.alloc (Obj.cells #[.int .i64 e.kind, .int .i64 e.member, .int .i64 e.number, .string (bs e.text)] 25)) := ((Keeps.refl NoB w).alloc _)
  have sx : (w.alloc (Obj.cells #[.int .i64 e.kind, .int .i64 e.member, .int .i64 e.number, .string (bs e.text)] 25)).heap.size = w.heap.size + 1 := by simp
  generalize (w.alloc (Obj.cells #[.int .i64 e.kind, .int .i64 e.member, .int .i64 e.number, .string (bs e.text)] 25)) = w0 at bx0 ex sx ⊢
  have Sx := Lib.hid sx
  clear sx
  have BX := Lib.hid bx0
  clear cHB zHB lHB
  replace HB := Lib.hid (HB.out.ext ex)
  have HE := Lib.hid ex
  clear bx0 ex
  obtain ⟨cHB, zHB⟩ := HB.out.reads
  have lHB := HB.out.lt
  obtain ⟨cBX, zBX⟩ := BX.out.reads
  have lBX := BX.out.lt
  have hE0 : Keeps NoB w0 w0.drew := (Keeps.refl _ _).drew
  refine wp_region_plan [(1, 0), (0, 1), (1, 2), (0, 3), (0, 4), (1, 5), (0, 6), (0, 7), (3, 8), (2, 9), (0, 10)] [0, 2, 5] [9, 11, 12, 13] [11, 12, 13] (ClsE w0) (by kernel_rfl) (by kernel_rfl) (by kernel_rfl) rfl rfl (ClsE.of hE0) (fun _ _ _ d _ h => by cases d <;> exact h) ?_; simp only [planL, nL]
  refine pL (v := ?_) rfl (fun W => ?_) ?_; rotate_left; (go_simp <;> with_reducible rfl); simp only [nP]
  refine pR (v := ?_) rfl (fun W => ?_) ?_; rotate_left; (go_simp <;> with_reducible rfl); simp only [nP]
  refine pL (v := ?_) rfl (fun W => ?_) ?_; rotate_left; (go_simp <;> with_reducible rfl); simp only [nP]
  iterate 2 (refine pR (v := ?_) rfl (fun W => ?_) ?_; rotate_left; (go_simp <;> with_reducible rfl); simp only [nP])
  refine pL (v := ?_) rfl (fun W => ?_) ?_; rotate_left; (go_simp <;> with_reducible rfl); simp only [nP]
  iterate 2 (refine pR (v := ?_) rfl (fun W => ?_) ?_; rotate_left; (go_simp <;> with_reducible rfl); simp only [nP])
  refine pX (v := ?_) rfl ?_ ?_; rotate_left; (go_simp <;> with_reducible rfl); simp only [nP]
  refine plan_does rfl (fun K hK => ?_)
  go_wp2_with fail
  refine (HC.out _ (HE.out.ext hE0)).mono ?_
  rintro r w2 ⟨rfl, hE2⟩
  have hE02 := hE0.ext hE2
  refine hK _ _ ⟨ClsE.of (by assumption), ?_⟩; clear hK K; try simp only [nP]
  refine pR (v := ?_) rfl (fun W => ?_) ?_; rotate_left; (go_simp <;> with_reducible rfl); simp only [nP]
  refine plan_nil ?_; simp only [tailL, List.filterMap_cons, List.filterMap_nil, nL]; change wpList _ _ _ (_ :: _ :: _ :: []) _ _
  clear cHB zHB lHB cBX zBX lBX
  go_wp2_with fail
  have by0 := (Box.new w2 4 [.bool m, .bool (decide (1 ≤ e.number)), .bool (decide (e.number ≤ 2147483647)), .bool ((chk e.text : Int) == 0)])
  have ey : Ext w2 (w2.alloc (Obj.cells #[.bool m, .bool (decide (1 ≤ e.number)), .bool (decide (e.number ≤ 2147483647)), .bool ((chk e.text : Int) == 0)] 4)) := ((Keeps.refl NoB w2).alloc _)
  have sy : (w2.alloc (Obj.cells #[.bool m, .bool (decide (1 ≤ e.number)), .bool (decide (e.number ≤ 2147483647)), .bool ((chk e.text : Int) == 0)] 4)).heap.size = w2.heap.size + 1 := by simp
  generalize (w2.alloc (Obj.cells #[.bool m, .bool (decide (1 ≤ e.number)), .bool (decide (e.number ≤ 2147483647)), .bool ((chk e.text : Int) == 0)] 4)) = w3 at by0 ey sy ⊢
  have Sy := Lib.hid sy
  clear sy
  have HE3 := Lib.hid ((HE.out.ext hE02).ext ey)
  refine (acc_all4 w3 _ _ _ _ _ by0).mono ?_
  rintro e' w4 ⟨rfl, rfl⟩
  clear ey by0 hE0 hE02 hE2
  have hs : (m && decide (1 ≤ e.number) && decide (e.number ≤ 2147483647) && ((chk e.text : Int) == 0)) = sayB m e := by
    have : ((chk e.text : Int) == 0) = (chk e.text == 0) := by
      rw [Bool.eq_iff_iff]; simp
    rw [this]; rfl
  rw [hs]
  clear hs
  go_wp2_with fail
  go_ret
  exact ⟨by simp, HE3.out⟩
/-- may an entry be? -/
def enB (e : En) : Bool := if e.kind = 1 then noneB e else if e.kind = 2 ∨ e.kind = 3 then memB e.member && aloneB e else if e.kind = 4 then sayB (memB e.member) e else false
def rightD (k : Nat) : List (Int × Value) := [(1, .func (.func 143) #[] #[]), (2, .func (.func 141) #[] #[.pointer (some ⟨k, 0, none⟩)]), (3, .func (.func 141) #[] #[.pointer (some ⟨k, 0, none⟩)]), (4, .func (.func 144) #[] #[.pointer (some ⟨k, 0, none⟩)])]
def nofn : Value := .nilFunc
theorem look_right (k : Nat) (e : En) (z : Value) : (e.kind = 1 ∧ lookI (rightD k) e.kind z = (.func (.func 143) #[] #[], true)) ∨ ((e.kind ≠ 1 ∧ (e.kind = 2 ∨ e.kind = 3)) ∧ lookI (rightD k) e.kind z = (.func (.func 141) #[] #[.pointer (some ⟨k, 0, none⟩)], true)) ∨
    ((e.kind ≠ 1 ∧ ¬ (e.kind = 2 ∨ e.kind = 3) ∧ e.kind = 4) ∧ lookI (rightD k) e.kind z = (.func (.func 144) #[] #[.pointer (some ⟨k, 0, none⟩)], true)) ∨ ((e.kind ≠ 1 ∧ ¬ (e.kind = 2 ∨ e.kind = 3) ∧ e.kind ≠ 4) ∧ lookI (rightD k) e.kind z = (z, false)) := by
  by_cases h1 : e.kind = 1
  · exact .inl ⟨h1, by rw [h1]; rfl⟩
  by_cases h2 : e.kind = 2
  · exact .inr (.inl ⟨⟨h1, .inl h2⟩, by rw [h2]; rfl⟩)
  by_cases h3 : e.kind = 3
  · exact .inr (.inl ⟨⟨h1, .inr h3⟩, by rw [h3]; rfl⟩)
  by_cases h4 : e.kind = 4
  · exact .inr (.inr (.inl ⟨⟨h1, by omega, h4⟩, by rw [h4]; rfl⟩))
  · refine .inr (.inr (.inr ⟨⟨h1, by omega, h4⟩, ?_⟩))
    unfold lookI rightD
    have a1 : ¬ (1 : Int) = e.kind := fun h => h1 h.symm
    have a2 : ¬ (2 : Int) = e.kind := fun h => h2 h.symm
    have a3 : ¬ (3 : Int) = e.kind := fun h => h3 h.symm
    have a4 : ¬ (4 : Int) = e.kind := fun h => h4 h.symm
    simp [a1, a2, a3, a4]
theorem zeroFn (w : World) : (zeroValue 79).run Tryz.prog w = .ok nofn w := by kernel_rfl
theorem right_any (w : World) (e : En) (hI : I64 e.kind)
    (hC : e.kind = 4 → ∀ w1, Ext w w1 → Calls Tryz.prog 103 #[.string (bs e.text)] w1 fun r w' => r = .returned (.int .i64 (chk e.text : Int)) ∧ Ext w1 w') :
    Calls Tryz.prog 118 #[e.v] w fun r w' => r = .returned (.bool (enB e)) ∧ Ext w w' := by
  have HC := Lib.hid hC
  have HI := Lib.hid hI
  clear hC hI
  unfold En.v
  by_cases hm : 0 ≤ e.member
  · have hXM : Hid ((decide (e.member < 16)) = memB e.member) := Lib.hid (by unfold memB; rw [decide_eq_true hm, Bool.true_and])
    go_enter Tryz.func118, Tryz.ntmps118
    go_wp2_with fail
    have bx0 := ((Box.new w 25 [.int .i64 e.kind, .int .i64 e.member, .int .i64 e.number, .string (bs e.text)]).alloc (Obj.cells #[.bool (decide (e.member < 16))] 4))
    have bx1 := (Box.new (w.alloc (Obj.cells #[.int .i64 e.kind, .int .i64 e.member, .int .i64 e.number, .string (bs e.text)] 25)) 4 [.bool (decide (e.member < 16))])
    have ex : Ext w ((w.alloc (Obj.cells #[.int .i64 e.kind, .int .i64 e.member, .int .i64 e.number, .string (bs e.text)] 25)).alloc (Obj.cells #[.bool (decide (e.member < 16))] 4)) := (((Keeps.refl NoB w).alloc _).alloc _)
    have sx : ((w.alloc (Obj.cells #[.int .i64 e.kind, .int .i64 e.member, .int .i64 e.number, .string (bs e.text)] 25)).alloc (Obj.cells #[.bool (decide (e.member < 16))] 4)).heap.size = w.heap.size + 2 := by simp
    simp only [World.size_alloc] at bx1
    generalize ((w.alloc (Obj.cells #[.int .i64 e.kind, .int .i64 e.member, .int .i64 e.number, .string (bs e.text)] 25)).alloc (Obj.cells #[.bool (decide (e.member < 16))] 4)) = w0 at bx0 bx1 ex sx ⊢
    have Sx := Lib.hid sx
    clear sx
    have HX := Lib.hid ex
    have B0 := Lib.hid bx0
    have B1 := Lib.hid bx1
    have hlt := bx1.lt
    clear ex bx0 bx1
    rw [hXM.out] at B1
    obtain ⟨k, hk⟩ : ∃ k, w.heap.size + 1 = k := ⟨_, rfl⟩
    have HKK := Lib.hid hk
    rw [hk]
    clear hk
    have hmm := run_makeMap (P := Tryz.prog) 174 w0
    have put := fun (w : World) (D : List (Int × Value)) (m : Nat) (h : MapI w m D) (n : Int) (hn : I64 n) (hne : ∀ p ∈ D, p.1 ≠ n) (v : Value) => h.put Tryz.underlying174 Tryz.underlying23 hn hne v
    obtain ⟨w1, r1, m1, k1⟩ := put _ _ _ (mapi_new w0) 1 (i64_lit 1 rfl) (by simp) (.func (.func 143) #[] #[])
    obtain ⟨w2, r2, m2, k2⟩ := put _ _ _ m1 2 (i64_lit 2 rfl) (by simp) (.func (.func 141) #[] #[.pointer (some ⟨k, 0, none⟩)])
    obtain ⟨w3, r3, m3, k3⟩ := put _ _ _ m2 3 (i64_lit 3 rfl) (by simp) (.func (.func 141) #[] #[.pointer (some ⟨k, 0, none⟩)])
    obtain ⟨w4, r4, m4, k4⟩ := put _ _ _ m3 4 (i64_lit 4 rfl) (by simp) (.func (.func 144) #[] #[.pointer (some ⟨k, 0, none⟩)])
    have hE4 : Ext w0 w4 := ((Keeps.refl NoB w0).alloc _).then (((k1.trans k2).trans k3).trans k4) fun i hi h => absurd (show i = w0.heap.size from h) (by omega)
    have hlk : (Instr.lookup 174 (.map (some w0.heap.size)) (.int .i64 e.kind) true).run Tryz.prog w4 = .ok (.tuple #[(lookI (rightD k) e.kind nofn).1, .bool (lookI (rightD k) e.kind nofn).2]) w4 :=
      MapI.look (D := rightD k) m4 Tryz.underlying174 Tryz.underlying23 zeroFn HI.out (by unfold rightD; simp) true
    replace B0 := Lib.hid (B0.out.ext hE4)
    replace B1 := Lib.hid (B1.out.ext hE4)
    have HE := Lib.hid (HX.out.ext hE4)
    clear m1 m2 m3 m4 k1 k2 k3 k4 put hE4 hlt
    obtain ⟨cB0, zB0⟩ := B0.out.reads
    have lB0 := B0.out.lt
    rcases look_right k e nofn with ⟨h1, h2⟩ | ⟨h1, h2⟩ | ⟨h1, h2⟩ | ⟨h1, h2⟩
    · rw [h2] at hlk
      have H1 := Lib.hid h1
      clear h1 h2
      go_wp2_with fail
      refine (right2_any _ e).mono ?_
      rintro r w5 ⟨rfl, hE5⟩
      have HE5 := Lib.hid (HE.out.ext hE5)
      clear hE5
      clear cB0 zB0 lB0
      go_wp2_with fail
      go_ret
      exact ⟨by rw [enB, if_pos H1.out]; simp, HE5.out⟩
    · rw [h2] at hlk
      have H1 := Lib.hid h1
      clear h1 h2
      go_wp2_with fail
      refine (right1_any _ k (memB e.member) e (by have h9 := B1.out; rw [HKK.out] at h9; exact h9)).mono ?_
      rintro r w5 ⟨rfl, hE5⟩
      have HE5 := Lib.hid (HE.out.ext hE5)
      clear hE5
      clear cB0 zB0 lB0
      go_wp2_with fail
      go_ret
      exact ⟨by rw [enB, if_neg H1.out.1, if_pos H1.out.2]; simp, HE5.out⟩
    · rw [h2] at hlk
      have H1 := Lib.hid h1
      clear h1 h2
      go_wp2_with fail
      refine (right3_any _ k (memB e.member) e (by have h9 := B1.out; rw [HKK.out] at h9; exact h9) (fun W hW => HC.out H1.out.2.2 W (HE.out.ext hW))).mono ?_
      rintro r w5 ⟨rfl, hE5⟩
      have HE5 := Lib.hid (HE.out.ext hE5)
      clear hE5
      clear cB0 zB0 lB0
      go_wp2_with fail
      go_ret
      exact ⟨by rw [enB, if_neg H1.out.1, if_neg H1.out.2.1, if_pos H1.out.2.2]; simp, HE5.out⟩
    · rw [h2] at hlk
      have H1 := Lib.hid h1
      clear h1 h2
      go_wp2_with fail
      clear cB0 zB0 lB0
      go_ret
      exact ⟨by rw [enB, if_neg H1.out.1, if_neg H1.out.2.1, if_neg H1.out.2.2]; simp, HE.out⟩
  · have hXM : Hid (false = memB e.member) := Lib.hid (by unfold memB; rw [decide_eq_false hm, Bool.false_and])
    have hm2 : e.member < 0 := by omega
    go_enter Tryz.func118, Tryz.ntmps118
    go_wp2_with fail
    have bx0 := ((Box.new w 25 [.int .i64 e.kind, .int .i64 e.member, .int .i64 e.number, .string (bs e.text)]).alloc (Obj.cells #[.bool false] 4))
    have bx1 := (Box.new (w.alloc (Obj.cells #[.int .i64 e.kind, .int .i64 e.member, .int .i64 e.number, .string (bs e.text)] 25)) 4 [.bool false])
    have ex : Ext w ((w.alloc (Obj.cells #[.int .i64 e.kind, .int .i64 e.member, .int .i64 e.number, .string (bs e.text)] 25)).alloc (Obj.cells #[.bool false] 4)) := (((Keeps.refl NoB w).alloc _).alloc _)
    have sx : ((w.alloc (Obj.cells #[.int .i64 e.kind, .int .i64 e.member, .int .i64 e.number, .string (bs e.text)] 25)).alloc (Obj.cells #[.bool false] 4)).heap.size = w.heap.size + 2 := by simp
    simp only [World.size_alloc] at bx1
    generalize ((w.alloc (Obj.cells #[.int .i64 e.kind, .int .i64 e.member, .int .i64 e.number, .string (bs e.text)] 25)).alloc (Obj.cells #[.bool false] 4)) = w0 at bx0 bx1 ex sx ⊢
    have Sx := Lib.hid sx
    clear sx
    have HX := Lib.hid ex
    have B0 := Lib.hid bx0
    have B1 := Lib.hid bx1
    have hlt := bx1.lt
    clear ex bx0 bx1
    rw [hXM.out] at B1
    obtain ⟨k, hk⟩ : ∃ k, w.heap.size + 1 = k := ⟨_, rfl⟩
    have HKK := Lib.hid hk
    rw [hk]
    clear hk
    have hmm := run_makeMap (P := Tryz.prog) 174 w0
    have put := fun (w : World) (D : List (Int × Value)) (m : Nat) (h : MapI w m D) (n : Int) (hn : I64 n) (hne : ∀ p ∈ D, p.1 ≠ n) (v : Value) => h.put Tryz.underlying174 Tryz.underlying23 hn hne v
    obtain ⟨w1, r1, m1, k1⟩ := put _ _ _ (mapi_new w0) 1 (i64_lit 1 rfl) (by simp) (.func (.func 143) #[] #[])
    obtain ⟨w2, r2, m2, k2⟩ := put _ _ _ m1 2 (i64_lit 2 rfl) (by simp) (.func (.func 141) #[] #[.pointer (some ⟨k, 0, none⟩)])
    obtain ⟨w3, r3, m3, k3⟩ := put _ _ _ m2 3 (i64_lit 3 rfl) (by simp) (.func (.func 141) #[] #[.pointer (some ⟨k, 0, none⟩)])
    obtain ⟨w4, r4, m4, k4⟩ := put _ _ _ m3 4 (i64_lit 4 rfl) (by simp) (.func (.func 144) #[] #[.pointer (some ⟨k, 0, none⟩)])
    have hE4 : Ext w0 w4 := ((Keeps.refl NoB w0).alloc _).then (((k1.trans k2).trans k3).trans k4) fun i hi h => absurd (show i = w0.heap.size from h) (by omega)
    have hlk : (Instr.lookup 174 (.map (some w0.heap.size)) (.int .i64 e.kind) true).run Tryz.prog w4 = .ok (.tuple #[(lookI (rightD k) e.kind nofn).1, .bool (lookI (rightD k) e.kind nofn).2]) w4 :=
      MapI.look (D := rightD k) m4 Tryz.underlying174 Tryz.underlying23 zeroFn HI.out (by unfold rightD; simp) true
    replace B0 := Lib.hid (B0.out.ext hE4)
    replace B1 := Lib.hid (B1.out.ext hE4)
    have HE := Lib.hid (HX.out.ext hE4)
    clear m1 m2 m3 m4 k1 k2 k3 k4 put hE4 hlt
    obtain ⟨cB0, zB0⟩ := B0.out.reads
    have lB0 := B0.out.lt
    rcases look_right k e nofn with ⟨h1, h2⟩ | ⟨h1, h2⟩ | ⟨h1, h2⟩ | ⟨h1, h2⟩
    · rw [h2] at hlk
      have H1 := Lib.hid h1
      clear h1 h2
      go_wp2_with fail
      refine (right2_any _ e).mono ?_
      rintro r w5 ⟨rfl, hE5⟩
      have HE5 := Lib.hid (HE.out.ext hE5)
      clear hE5
      clear cB0 zB0 lB0
      go_wp2_with fail
      go_ret
      exact ⟨by rw [enB, if_pos H1.out]; simp, HE5.out⟩
    · rw [h2] at hlk
      have H1 := Lib.hid h1
      clear h1 h2
      go_wp2_with fail
      refine (right1_any _ k (memB e.member) e (by have h9 := B1.out; rw [HKK.out] at h9; exact h9)).mono ?_
      rintro r w5 ⟨rfl, hE5⟩
      have HE5 := Lib.hid (HE.out.ext hE5)
      clear hE5
      clear cB0 zB0 lB0
      go_wp2_with fail
      go_ret
      exact ⟨by rw [enB, if_neg H1.out.1, if_pos H1.out.2]; simp, HE5.out⟩
    · rw [h2] at hlk
      have H1 := Lib.hid h1
      clear h1 h2
      go_wp2_with fail
      refine (right3_any _ k (memB e.member) e (by have h9 := B1.out; rw [HKK.out] at h9; exact h9) (fun W hW => HC.out H1.out.2.2 W (HE.out.ext hW))).mono ?_
      rintro r w5 ⟨rfl, hE5⟩
      have HE5 := Lib.hid (HE.out.ext hE5)
      clear hE5
      clear cB0 zB0 lB0
      go_wp2_with fail
      go_ret
      exact ⟨by rw [enB, if_neg H1.out.1, if_neg H1.out.2.1, if_pos H1.out.2.2]; simp, HE5.out⟩
    · rw [h2] at hlk
      have H1 := Lib.hid h1
      clear h1 h2
      go_wp2_with fail
      clear cB0 zB0 lB0
      go_ret
      exact ⟨by rw [enB, if_neg H1.out.1, if_neg H1.out.2.1, if_neg H1.out.2.2]; simp, HE.out⟩
end Go.Proofs.YtcfgnbbiljohjaaGreatDoor
end
section
/- What of Go's library this program holds, laid at its numbers (written by the kit's tools lay-shelf, lay-plain). No condition. -/
namespace Go.Proofs
open Go.Shelf
def Tryz.laysValid_ren : Go.Shelf.Ren := ⟨fun | 196 => 134 | 259 => 150 | n => n, fun | 9 => 9 | 4 => 4 | 3 => 3 | 5 => 5 | 12 => 12 | 119 => 180 | 0 => 0 | 46 => 144 | 139 => 183 | 138 => 182 | 53 => 199 | n => n, fun | 3 => 0 | 4 => 1 | n => n⟩
theorem Tryz.laysValid : Go.Proofs.Lays.n196 Tryz.prog Tryz.laysValid_ren := {
  mixed := by kernel_rfl
  f196 := Tryz.func134.trans (congrArg some (by kernel_rfl))
  f259 := Tryz.func150.trans (congrArg some (by kernel_rfl))
  t0 := Tryz.underlying0
  a0 := Tryz.isAgg0
  z0 := Tryz.sizeOf0
  v0 := Tryz.zeroValue0
  t3 := Tryz.underlying3
  a3 := Tryz.isAgg3
  z3 := Tryz.sizeOf3
  v3 := Tryz.zeroValue3
  t4 := Tryz.underlying4
  a4 := Tryz.isAgg4
  z4 := Tryz.sizeOf4
  v4 := Tryz.zeroValue4
  t5 := Tryz.underlying5
  a5 := Tryz.isAgg5
  z5 := Tryz.sizeOf5
  v5 := Tryz.zeroValue5
  t9 := Tryz.underlying9
  a9 := Tryz.isAgg9
  z9 := Tryz.sizeOf9
  v9 := Tryz.zeroValue9
  t12 := Tryz.underlying12
  a12 := Tryz.isAgg12
  z12 := Tryz.sizeOf12
  v12 := Tryz.zeroValue12
  t46 := Tryz.underlying144
  a46 := Tryz.isAgg144
  z46 := Tryz.sizeOf144
  v46 := Tryz.zeroValue144
  t53 := Tryz.underlying199
  a53 := Tryz.isAgg199
  z53 := Tryz.sizeOf199
  v53 := Tryz.zeroValue199
  t119 := Tryz.underlying180
  a119 := Tryz.isAgg180
  z119 := Tryz.sizeOf180
  t138 := Tryz.underlying182
  a138 := Tryz.isAgg182
  z138 := Tryz.sizeOf182
  v138 := Tryz.zeroValue182
  t139 := Tryz.underlying183
  a139 := Tryz.isAgg183
  z139 := Tryz.sizeOf183
  v139 := Tryz.zeroValue183
  g3 := by kernel_rfl
  g4 := by kernel_rfl }
def Tryz.laysTrim_ren : Go.Shelf.Ren := ⟨fun | 160 => 138 | 232 => 153 | 231 => 152 | 227 => 154 | 234 => 156 | 233 => 155 | 236 => 158 | 235 => 157 | 228 => 161 | 271 => 164 | 151 => 163 | 197 => 162 | 120 => 170 | 152 => 169 | 260 => 168 | 137 => 171 | 119 => 172 | 224 => 173 | 225 => 174 | 217 => 175 | 266 => 176 | n => n, fun | 9 => 9 | 4 => 4 | 3 => 3 | 5 => 5 | 117 => 187 | 116 => 186 | 0 => 0 | 124 => 190 | 21 => 21 | 105 => 200 | 46 => 144 | 119 => 180 | 139 => 183 | 138 => 182 | n => n, fun | 3 => 0 | 4 => 1 | n => n⟩
theorem Tryz.laysTrim : Go.Proofs.Lays.n160 Tryz.prog Tryz.laysTrim_ren := {
  mixed := by kernel_rfl
  f119 := Tryz.func172.trans (congrArg some (by kernel_rfl))
  f120 := Tryz.func170.trans (congrArg some (by kernel_rfl))
  f137 := Tryz.func171.trans (congrArg some (by kernel_rfl))
  f151 := Tryz.func163.trans (congrArg some (by kernel_rfl))
  f152 := Tryz.func169.trans (congrArg some (by kernel_rfl))
  f160 := Tryz.func138.trans (congrArg some (by kernel_rfl))
  f197 := Tryz.func162.trans (congrArg some (by kernel_rfl))
  f217 := Tryz.func175.trans (congrArg some (by kernel_rfl))
  f224 := Tryz.func173.trans (congrArg some (by kernel_rfl))
  f225 := Tryz.func174.trans (congrArg some (by kernel_rfl))
  f227 := Tryz.func154.trans (congrArg some (by kernel_rfl))
  f228 := Tryz.func161.trans (congrArg some (by kernel_rfl))
  f231 := Tryz.func152.trans (congrArg some (by kernel_rfl))
  f232 := Tryz.func153.trans (congrArg some (by kernel_rfl))
  f233 := Tryz.func155.trans (congrArg some (by kernel_rfl))
  f234 := Tryz.func156.trans (congrArg some (by kernel_rfl))
  f235 := Tryz.func157.trans (congrArg some (by kernel_rfl))
  f236 := Tryz.func158.trans (congrArg some (by kernel_rfl))
  f260 := Tryz.func168.trans (congrArg some (by kernel_rfl))
  f266 := Tryz.func176.trans (congrArg some (by kernel_rfl))
  f271 := Tryz.func164.trans (congrArg some (by kernel_rfl))
  t0 := Tryz.underlying0
  a0 := Tryz.isAgg0
  z0 := Tryz.sizeOf0
  v0 := Tryz.zeroValue0
  t3 := Tryz.underlying3
  a3 := Tryz.isAgg3
  z3 := Tryz.sizeOf3
  v3 := Tryz.zeroValue3
  t4 := Tryz.underlying4
  a4 := Tryz.isAgg4
  z4 := Tryz.sizeOf4
  v4 := Tryz.zeroValue4
  t5 := Tryz.underlying5
  a5 := Tryz.isAgg5
  z5 := Tryz.sizeOf5
  v5 := Tryz.zeroValue5
  t9 := Tryz.underlying9
  a9 := Tryz.isAgg9
  z9 := Tryz.sizeOf9
  v9 := Tryz.zeroValue9
  t21 := Tryz.underlying21
  a21 := Tryz.isAgg21
  z21 := Tryz.sizeOf21
  v21 := Tryz.zeroValue21
  t46 := Tryz.underlying144
  a46 := Tryz.isAgg144
  z46 := Tryz.sizeOf144
  v46 := Tryz.zeroValue144
  t105 := Tryz.underlying200
  a105 := Tryz.isAgg200
  z105 := Tryz.sizeOf200
  v105 := Tryz.zeroValue200
  t116 := Tryz.underlying186
  a116 := Tryz.isAgg186
  z116 := Tryz.sizeOf186
  t117 := Tryz.underlying187
  a117 := Tryz.isAgg187
  z117 := Tryz.sizeOf187
  v117 := Tryz.zeroValue187
  t119 := Tryz.underlying180
  a119 := Tryz.isAgg180
  z119 := Tryz.sizeOf180
  t124 := Tryz.underlying190
  a124 := Tryz.isAgg190
  z124 := Tryz.sizeOf190
  v124 := Tryz.zeroValue190
  t138 := Tryz.underlying182
  a138 := Tryz.isAgg182
  z138 := Tryz.sizeOf182
  v138 := Tryz.zeroValue182
  t139 := Tryz.underlying183
  a139 := Tryz.isAgg183
  z139 := Tryz.sizeOf183
  v139 := Tryz.zeroValue183
  g3 := by kernel_rfl
  g4 := by kernel_rfl }
end Go.Proofs
end
section
/- What may be wrong with a text (package text): each fault's question, and Check. Condition: unicode/utf8's two tables read as their initialisers lay them. -/
set_option linter.unusedVariables false
set_option linter.unusedSimpArgs false
set_option maxHeartbeats 2000000
set_option maxRecDepth 10000
namespace Go.Proofs.YtcfgnbbiljohjaaGreatDoor
open Go.RowKit Go.Shelf

/-- unicode/utf8's tables read as they are laid -/
def Tabs (w : World) : Prop := Lib.Utf8Tabs (Tryz.laysValid_ren.g 3) (Tryz.laysValid_ren.g 4) w
theorem valid_any (w : World) (s : ByteArray) (hs : s.size ≤ 9223372036854775807) (hT : Tabs w) :
    Calls Tryz.prog 134 #[.string s] w fun e w' => e = .returned (.bool (Lib.validD s.data.toList)) ∧ Ext w w' :=
  (Any.utf8_ValidString Tryz.laysValid s w hs hT).mono fun e w' ⟨a, b⟩ => ⟨a, Ext.of_below b⟩
theorem trim_any (w : World) (s : ByteArray) (hs : s.size ≤ 9223372036854775807) :
    Calls Tryz.prog 138 #[.string s, .string ⟨#[32]⟩] w fun e w' => e = .returned (.string ⟨(Lib.trimB s.data.toList 32).toArray⟩) ∧ Ext w w' :=
  (Any.strings_Trim_one Tryz.laysTrim s 32 (by decide) w hs).mono fun e w' ⟨a, b⟩ => ⟨a, by
    rcases b with rfl | rfl
    · exact Keeps.refl _ _
    · exact Ext.drew0 _⟩
theorem long_any (w : World) (s : ByteArray) : Calls Tryz.prog 132 #[.string s] w fun e w' => e = .returned (.bool (decide (200 < s.size))) ∧ w' = w := by
  go_enter Tryz.func132, Tryz.ntmps132
  go_wp2_with fail
  go_ret
  simp
  omega
theorem broken_any (w : World) (s : ByteArray) (hs : s.size ≤ 9223372036854775807) (hT : Tabs w) : Calls Tryz.prog 133 #[.string s] w fun e w' => e = .returned (.bool (!Lib.validD s.data.toList)) ∧ Ext w w' := by
  have HT := Lib.hid hT
  clear hT
  go_enter Tryz.func133, Tryz.ntmps133
  go_wp2_with fail
  refine (valid_any _ s hs HT.out).mono ?_
  rintro e w' ⟨rfl, hE⟩
  have HE := Lib.hid hE
  clear hE
  go_wp2_with fail
  go_ret
  exact ⟨by simp, HE.out⟩
def badR (r : Nat) : Bool := decide (r < 32) || (decide (127 ≤ r) && decide (r < 160))
theorem rune_any (w : World) (r : Nat) : Calls Tryz.prog 136 #[.int .i32 r] w fun e w' => e = .returned (.bool (badR r)) ∧ w' = w := by
  by_cases h1 : r < 32
  · have g1 : (r : Int) < 32 := by omega
    go_enter Tryz.func136, Tryz.ntmps136
    go_wp2_with fail
    go_ret
    simp [badR, h1]
  · have g1 : ¬ (r : Int) < 32 := by omega
    by_cases h2 : 127 ≤ r
    · have g2 : (127 : Int) ≤ (r : Int) := by omega
      go_enter Tryz.func136, Tryz.ntmps136
      go_wp2_with fail
      go_ret
      simp [badR, h1, h2]
      omega
    · have g2 : ¬ (127 : Int) ≤ (r : Int) := by omega
      go_enter Tryz.func136, Tryz.ntmps136
      go_wp2_with fail
      go_ret
      simp [badR, h1, h2]
theorem badR_eq (x : Sg) : x.bad = badR x.n := by
  unfold Sg.bad badR
  congr 2
  exact decide_eq_decide.2 (by omega)
def badsF (l : List UInt8) (f p : Nat) : Bool := (signsF l f p).any (·.bad)
theorem bad_any (w : World) (c : Nat) (s : ByteArray) (hs : s.size ≤ 9223372036854775807) (hB : Box w c 168 [.func (.func 136) #[] #[]]) :
    Calls Tryz.prog 151 #[.string s, .pointer (some ⟨c, 0, none⟩)] w fun e w' => e = .returned (.bool (badsF s.data.toList s.size 0)) ∧ Ext w w' := by
  have HB := Lib.hid hB
  clear hB
  go_enter Tryz.func151, Tryz.ntmps151
  go_wp2_with fail
  have HE0 := Lib.hid ((Keeps.refl NoB w).alloc (.stringIter s 0))
  go_loopw [5] (fun r wr => ∃ (pos f : Nat), wr = w.iter s pos ∧ badsF s.data.toList f pos = badsF s.data.toList s.size 0 ∧ s.size ≤ pos + f) (fun _ wr => s.size - wr.iterPos w.heap.size)
  case atStart => exact ⟨0, s.size, rfl, rfl, by omega⟩
  case round =>
    obtain ⟨pos, f, rfl, hc, hf⟩ := hrel
    have hBx := (HB.out.ext ((Keeps.refl NoB w).alloc (.stringIter s pos)) : Box (w.iter s pos) _ _ _)
    have hlt := HB.out.lt
    by_cases hp : pos < s.size
    · have hnx : ∀ ty, (Instr.next (.pointer (some ⟨w.heap.size, 0, none⟩)) true ty).run Tryz.prog (w.iter s pos) = _ := fun ty => run_next_any w s pos ty hp
      have hb2 := (HB.out.ext ((Keeps.refl NoB w).alloc (.stringIter s (pos + (Utf8.decode s pos).2))) : Box (w.iter s (pos + (Utf8.decode s pos).2)) _ _ _)
      obtain ⟨f1, z1⟩ := hb2.reads
      clear hBx hb2
      have hw1 : 1 ≤ (Utf8.decode s pos).2 := by rw [← Lib.decodeL_drop]; exact decodeL_pos _
      obtain ⟨f, rfl⟩ : ∃ g, f = g + 1 := ⟨f - 1, by omega⟩
      have hstep : badsF s.data.toList (f + 1) pos = (badR (Utf8.decode s pos).1 || badsF s.data.toList f (pos + (Utf8.decode s pos).2)) := by
        unfold badsF
        rw [signsF_step _ _ _ hp, List.any_cons, badR_eq, Lib.decodeL_drop]
      rw [hstep] at hc
      have HC := Lib.hid hc
      have HW := Lib.hid hw1
      have HF := Lib.hid hf
      clear hstep hc hw1 hf
      go_wp2_with fail
      refine (rune_any _ _).mono ?_
      rintro e w' ⟨rfl, hw⟩
      rw [hw]
      clear hw w'
      cases hb : badR (Utf8.decode s pos).1
      · go_wp2_with fail
        go_roundw
        case rel =>
          have := HC.out
          rw [hb, Bool.false_or] at this
          exact ⟨_, f, rfl, this, by have := HF.out; have := HW.out; omega⟩
        case measure =>
          have := HW.out
          simp
          omega
      · go_wp2_with fail
        go_ret
        refine ⟨?_, (Keeps.refl NoB w).alloc _⟩
        have := HC.out
        rw [hb, Bool.true_or] at this
        rw [← this]
        rfl
    · have hnx : ∀ ty, (Instr.next (.pointer (some ⟨w.heap.size, 0, none⟩)) true ty).run Tryz.prog (w.iter s pos) = _ := fun ty => run_next_end w s pos ty hp
      have hend : badsF s.data.toList f pos = false := by unfold badsF; rw [signsF_end _ _ _ hp]; rfl
      rw [hend] at hc
      have HC := Lib.hid hc
      clear hend hc hBx
      go_wp2_with fail
      go_ret
      exact ⟨by rw [← HC.out]; rfl, (Keeps.refl NoB w).alloc _⟩
/-- the question on blanks -/
def blankR (l : List UInt8) : Bool := l.isEmpty || decide (Lib.trimB l 32 ≠ l)
theorem blank_any (w : World) (l : List UInt8) (hs : l.length ≤ 9223372036854775807) : Calls Tryz.prog 137 #[.string (bs l)] w fun e w' => e = .returned (.bool (blankR l)) ∧ Ext w w' := by
  have e1 := bs_toList l
  by_cases h0 : l = []
  · subst h0
    go_enter Tryz.func137, Tryz.ntmps137
    go_wp2_with fail
    go_ret
    exact ⟨rfl, Keeps.refl _ _⟩
  · have hd := bs_data l
    have hsz : (bs l).size ≤ 9223372036854775807 := by rw [Lib.size_eq, hd]; exact hs
    have hn : l.isEmpty = false := by cases l; exact absurd rfl h0; rfl
    have HD := Lib.hid hd
    have HN := Lib.hid hn
    clear hd hn hs
    have e2 := bs_toList (Lib.trimB l 32)
    by_cases ht : Lib.trimB l 32 = l
    · have HT := Lib.hid ht
      go_enter Tryz.func137, Tryz.ntmps137
      go_wp2_with fail
      refine (trim_any _ _ hsz).mono ?_
      rintro e w' ⟨rfl, hE⟩
      rw [HD.out, HT.out]
      have HE := Lib.hid hE
      clear hE ht e2
      go_wp2_with fail
      go_ret
      exact ⟨by simp [blankR, HN.out, HT.out], HE.out⟩
    · have HT := Lib.hid ht
      go_enter Tryz.func137, Tryz.ntmps137
      go_wp2_with fail
      refine (trim_any _ _ hsz).mono ?_
      rintro e w' ⟨rfl, hE⟩
      rw [HD.out, show (⟨(Lib.trimB l 32).toArray⟩ : ByteArray) = bs (Lib.trimB l 32) from rfl]
      have HE := Lib.hid hE
      clear hE
      go_wp2_with fail
      go_ret
      exact ⟨by simp [blankR, HN.out, HT.out], HE.out⟩
end Go.Proofs.YtcfgnbbiljohjaaGreatDoor
end
section
/- text.Check tells what is wrong with a text: the number that 'chk' tells. Condition: unicode/utf8's two tables read as their initialisers lay them. -/
set_option linter.unusedVariables false
set_option linter.unusedSimpArgs false
set_option maxHeartbeats 2000000
set_option maxRecDepth 10000
namespace Go.Proofs.YtcfgnbbiljohjaaGreatDoor
open Go.RowKit Go.Shelf

theorem Tabs.ext {w w' : World} (h : Tabs w) (e : Ext w w') : Tabs w' := Utf8Tabs_below h ⟨e.os, e.tape, e.output, e.size, fun k hk => e.block k hk (noB k)⟩
theorem made_bad (w : World) : Calls Tryz.prog 135 #[.func (.func 136) #[] #[]] w fun r w' => r = .returned (.func (.func 151) #[] #[.pointer (some ⟨w.heap.size, 0, none⟩)]) ∧ w' = w.alloc (.cells #[.func (.func 136) #[] #[]] 168) := by
  go_enter Tryz.func135, Tryz.ntmps135
  go_wp2_with fail
  go_ret
  exact ⟨rfl, rfl⟩
/-- text.Check as it asks -/
def chkR (l : List UInt8) : Nat := if 200 < l.length then 3 else if Lib.validD l = false then 130 else if badsF l l.length 0 = true then 131 else if blankR l = true then 132 else 0
theorem check_text (W w : World) (hT : Tabs W) (hE : Ext W w) (l : List UInt8) (hs : l.length ≤ 9223372036854775807) :
    Calls Tryz.prog 103 #[.string (bs l)] w fun r w' => r = .returned (.int .i64 (chkR l : Int)) ∧ Ext w w' := by
  have HM := Lib.hid (Mem.start0 w)
  have HT := Lib.hid (hT.ext hE)
  have HS := Lib.hid hs
  clear hT hE hs
  go_enter Tryz.func103, Tryz.ntmps103
  have fM := HM.out.fa
  go_wp2_with fail
  all_goals clear fM
  refine (made_bad _).mono ?_
  rintro r w1 ⟨rfl, rfl⟩
  have fM := HM.out.fa
  go_wp2_with fail
  all_goals clear fM
  refine nxt HM fun w1 M => ?_
  clear HM; have HM := M; clear M
  refine wp_loop_rounds 5 ?_
  rw [rounds_succ]
  have fM := HM.out.fa
  go_wp2_with fail
  all_goals clear fM
  refine nxt HM fun w2 M => ?_
  clear HM; have HM := M; clear M
  refine (long_any _ _).mono ?_
  rintro r wq ⟨rfl, hwq⟩
  rw [hwq, bs_size]
  clear hwq wq
  by_cases h1 : 200 < l.length
  · have HQ := Lib.hid (show chkR l = 3 by unfold chkR; rw [if_pos h1])
    rw [decide_eq_true h1]
    have fM := HM.out.fa
    go_wp2_with fail
    all_goals clear fM
    go_ret
    exact ⟨by rw [HQ.out]; rfl, HM.out.extTo⟩
  rw [decide_eq_false h1]
  have H1 := Lib.hid h1
  clear h1
  have fM := HM.out.fa
  go_wp2_with fail
  all_goals clear fM
  rw [rounds_succ]
  have fM := HM.out.fa
  go_wp2_with fail
  all_goals clear fM
  refine nxt HM fun w3 M => ?_
  clear HM; have HM := M; clear M
  refine (broken_any _ _ (by rw [bs_size]; exact HS.out) (HT.out.ext HM.out.extTo)).mono ?_
  rintro r w4 ⟨rfl, hE⟩
  replace HM := Lib.hid (HM.out.ext hE)
  clear hE
  rw [bs_data]
  cases h2 : Lib.validD l
  · have HQ := Lib.hid (show chkR l = 130 by unfold chkR; rw [if_neg H1.out, if_pos h2])
    clear h2
    rw [Bool.not_false]
    have fM := HM.out.fa
    go_wp2_with fail
    all_goals clear fM
    go_ret
    exact ⟨by rw [HQ.out]; rfl, HM.out.extTo⟩
  have H2 := Lib.hid h2
  clear h2
  rw [Bool.not_true]
  have fM := HM.out.fa
  go_wp2_with fail
  all_goals clear fM
  rw [rounds_succ]
  have fM := HM.out.fa
  go_wp2_with fail
  all_goals clear fM
  refine nxt HM fun w5 M => ?_
  clear HM; have HM := M; clear M
  obtain ⟨Ahb, hb⟩ := HM.out.get (r := cellsR w.heap.size 168 [.func (.func 136) #[] #[]]) (by with_reducible repeat first | exact ph | apply pt)
  refine (bad_any _ _ _ (by rw [bs_size]; exact HS.out) hb.2).mono ?_
  rintro r w6 ⟨rfl, hE⟩
  replace HM := Lib.hid (HM.out.ext hE)
  clear hE hb
  try clear Ahb
  rw [bs_data, bs_size]
  cases h3 : badsF l l.length 0
  case true =>
    have HQ := Lib.hid (show chkR l = 131 by unfold chkR; rw [if_neg H1.out, if_neg (by rw [H2.out]; exact Bool.noConfusion), if_pos h3])
    clear h3
    have fM := HM.out.fa
    go_wp2_with fail
    all_goals clear fM
    go_ret
    exact ⟨by rw [HQ.out]; rfl, HM.out.extTo⟩
  have H3 := Lib.hid h3
  clear h3
  have fM := HM.out.fa
  go_wp2_with fail
  all_goals clear fM
  rw [rounds_succ]
  have fM := HM.out.fa
  go_wp2_with fail
  all_goals clear fM
  refine nxt HM fun w7 M => ?_
  clear HM; have HM := M; clear M
  refine (blank_any _ _ HS.out).mono ?_
  rintro r w8 ⟨rfl, hE⟩
  replace HM := Lib.hid (HM.out.ext hE)
  clear hE
  cases h4 : blankR l
  case true =>
    have HQ := Lib.hid (show chkR l = 132 by unfold chkR; rw [if_neg H1.out, if_neg (by rw [H2.out]; exact Bool.noConfusion), if_neg (by rw [H3.out]; exact Bool.noConfusion), if_pos h4])
    clear h4
    have fM := HM.out.fa
    go_wp2_with fail
    all_goals clear fM
    go_ret
    exact ⟨by rw [HQ.out]; rfl, HM.out.extTo⟩
  have HQ := Lib.hid (show chkR l = 0 by unfold chkR; rw [if_neg H1.out, if_neg (by rw [H2.out]; exact Bool.noConfusion), if_neg (by rw [H3.out]; exact Bool.noConfusion), if_neg (by rw [h4]; exact Bool.noConfusion)])
  clear h4
  have fM := HM.out.fa
  go_wp2_with fail
  all_goals clear fM
  rw [rounds_succ]
  have fM := HM.out.fa
  go_wp2_with fail
  all_goals clear fM
  go_ret
  exact ⟨by rw [HQ.out]; rfl, HM.out.extTo⟩
end Go.Proofs.YtcfgnbbiljohjaaGreatDoor
end
