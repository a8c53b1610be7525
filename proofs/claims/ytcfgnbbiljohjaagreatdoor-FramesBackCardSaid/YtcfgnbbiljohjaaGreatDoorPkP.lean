/- Texts BackW, one behind the other. Conditions: as each says. -/
import Derived.Test.YtcfgnbbiljohjaaGreatDoorPkO
section
/- FramesBack: the walk. Conditions: its arguments lie as 'Bytes' and 'Sds' say; unicode/utf8's tables read as they are laid. -/
set_option linter.unusedVariables false
set_option linter.unusedSimpArgs false
set_option maxHeartbeats 4000000
set_option maxRecDepth 10000
namespace Go.Proofs.YtcfgnbbiljohjaaGreatDoor
open Go.RowKit
attribute [local go_sem] Oper.semAt_some
/-- several things that are said, as an argument -/
def Sds (w : World) (A : Nat → Prop) (v : Value) (ls : List Sd) : Prop := SlV A (AtOf w 11 fun cs (x : Sd) => cs = x.cells ∧ OkS x ∧ I64 x.kind) 11 v ls
theorem Sds.len {w : World} {A : Nat → Prop} {v : Value} {ls : List Sd} (h : Sds w A v ls) : ∃ a c, v = .slice a ls.length c := by
  rcases h with ⟨a, rfl, rfl⟩ | ⟨b, o, c, rfl, _⟩
  · exact ⟨_, _, rfl⟩
  · exact ⟨_, _, rfl⟩
theorem Sds.at {w : World} {A : Nat → Prop} {a : Option Addr} {n c : Nat} {ls : List Sd} (h : Sds w A (.slice a n c) ls) (i : Nat) (hi : i < ls.length) :
    ∃ g o, a = some ⟨g, o, none⟩ ∧ n = ls.length ∧ A g ∧ OkS ls[i] ∧ I64 ls[i].kind ∧ ∀ j, j < 11 → w.cell? ⟨g, o + i * 11 + j, none⟩ = (ls[i].cells)[j]? := by
  rcases h with ⟨a', h1, h2⟩ | ⟨b, o, c', h1, h2, h3, h4⟩
  · rw [h2] at hi; cases hi
  · cases h1
    obtain ⟨cs, ⟨e1, e2, e3⟩, e4, e5⟩ := h4 i hi
    rw [e1] at e5
    exact ⟨b, o, rfl, rfl, h3, e2, e3, e5⟩
theorem takeAll_ok : ∀ (ps : List Part) (r : Rdr) (s : Sd), OkS s → OkS (takeAll ps r s).2
  | [], r, s, h => h
  | p :: ps, r, s, h => takeAll_ok ps _ _ (p.take_ok r s h).1
theorem okS_of (k : Int) : OkS (Sd.of k) := ⟨i64_lit 0 rfl, Nat.zero_le _, Nat.zero_le _, Nat.zero_le _⟩
theorem parse_ok (b : List UInt8) : OkS (parseL b).1 := by
  unfold parseL
  dsimp only
  split
  · exact takeAll_ok _ _ _ (okS_of _)
  · exact okS_of 0
theorem read_ok (b : List UInt8) : OkS (readL b).1 := by
  unfold readL
  split
  · exact okS_of 0
  · split
    · exact okS_of 0
    · exact parse_ok _
def sdE : Enc Sd where
  cells := Sd.cells
  sz := 11
  len _ := rfl
  one x u hu := by
    simp only [Sd.cells, List.mem_cons, List.not_mem_nil, or_false] at hu
    rcases hu with rfl | rfl | rfl | rfl | rfl | rfl | rfl | rfl | rfl | rfl | rfl <;> rfl
theorem infoSd : (Tryz.prog.info? 27).map (fun i => (i.zero, i.size, i.bytes)) = some (some (.agg #[.int .i64 0, .int .i64 0, .int .i64 0, .int .i64 0, .bool false, .string ⟨#[]⟩, .string ⟨#[]⟩, .int .i64 0, .int .i64 0, .int .i64 0, .string ⟨#[]⟩]), 11, 112) := by kernel_rfl
theorem add_sd {F : Nat → Prop} {w0 w : World} {L : List Res} {v : Value} {l : List Sd} (ty : TypeId) (h : Mem F w0 w (rowR sdE v l :: L)) (b c : Nat) (x : Sd) (hb : ∀ o, w.cell? ⟨b, o, none⟩ = (sdE.cells x)[o]?) (hl : l.length < 1000000) :
    ∃ v' w', (Builtin.append_ #[57, 57] ty #[v, .slice (some ⟨b, 0, none⟩) 1 c]).run Tryz.prog w = .ok v' w' ∧ Mem F w0 w' (rowR sdE v' (l ++ [x]) :: L) := by
  obtain ⟨i0, hi, hz0, hz1, hz2⟩ := info_parts infoSd
  exact Mem.rowAdd 57 57 ty 27 i0 _ 112 Tryz.underlying57 Tryz.underlying57 hi hz0 hz1 hz2 rfl h b c x hb (by simp [maxLen]; omega) (by omega)
theorem rawsL_len (l : List Sd) (h : ∀ s ∈ l, sdB s = true) : (rawsL l).length ≤ 484 * l.length := by
  induction l with
  | nil => exact Nat.zero_le _
  | cons s l ih =>
    have h1 := frame_len (body_len s (h s (List.mem_cons_self ..)))
    have h2 := ih fun x hx => h x (List.mem_cons_of_mem _ hx)
    have hr : rawsL (s :: l) = frameL (bodyL s) ++ rawsL l := by unfold rawsL; rw [List.map_cons, List.flatten_cons]
    rw [hr, List.length_append, List.length_cons]
    omega
theorem rawsL_snoc (l : List Sd) (s : Sd) : rawsL (l ++ [s]) = rawsL l ++ frameL (bodyL s) := by
  unfold rawsL
  rw [List.map_append, List.flatten_append]
  simp
theorem back_walk (W : World) (vl vb : Value) (ls : List Sd) (b : List UInt8) (hl : Sds W (Old W) vl ls) (hb : Bytes W (Old W) vb b) (hT : Tabs W) : Calls Tryz.prog 8 #[vl, vb] W fun e w' => e = .returned (.bool true) ∧ Ext W w' := by
  obtain ⟨al, cl, rfl⟩ := hl.len
  obtain ⟨ab, cb, rfl⟩ := hb.len
  have HM := Lib.hid (Mem.start0 W)
  have HSD := Lib.hid hl
  have HB := Lib.hid hb
  clear hl hb
  refine (callsIn_wide (n := 9)).1 (callsIn_of_wp_marks Tryz.func8 rfl trivial ?_ rfl)
  simp only [Tryz.ntmps8, List.size_toArray, List.length_cons, List.length_nil, Nat.reduceAdd, Nat.reduceSub, Array.replicate_succ, Array.replicate_zero, List.push_toArray, List.append_toArray, List.nil_append, List.cons_append]
  refine wpIn_wide.2 ?_
  by_cases h8 : ls.length ≤ 8
  case neg =>
    have h1 : (8 : Int) < ls.length := by omega
    clear h8
    have fM := HM.out.fa
    go_wp2_with fail
    all_goals clear fM
    refine nxt HM fun w1 M => ?_
    clear HM; have HM := M; clear M
    obtain ⟨kr, hkr⟩ : ∃ k, W.heap.size = k := ⟨_, rfl⟩
    rw [hkr] at HM ⊢
    clear hkr
    refine (works_any W _ hT HM.out.extTo).mono ?_
    rintro e w3 ⟨rfl, hE2⟩
    replace HM := Lib.hid (HM.out.ext hE2)
    clear hE2
    have fM := HM.out.fa
    go_wp2_with fail
    all_goals clear fM
    refine nxt HM fun w4 M => ?_
    clear HM; have HM := M; clear M
    refine leaves_marks [] _ (by simp) (by simp) ?_
    intro w' hk
    have hE' : Ext w4 w' := hk.mono fun k _ h => by simp at h
    obtain ⟨Ahb, hb⟩ := HM.out.get (r := cellsR kr 4 [.bool true]) (by with_reducible repeat first | exact ph | apply pt)
    have q0 := (hb.2.ext hE').reads.1
    exact ⟨.bool true, by simp [results, Tryz.results8, go_sem, q0], rfl, HM.out.extTo.ext hE'⟩
  have h1 : ¬ (8 : Int) < ls.length := by omega
  by_cases h6 : b.length ≤ 600
  case neg =>
    have h2 : (600 : Int) < b.length := by omega
    clear h6 h8
    have fM := HM.out.fa
    go_wp2_with fail
    all_goals clear fM
    refine nxt HM fun w1 M => ?_
    clear HM; have HM := M; clear M
    obtain ⟨kr, hkr⟩ : ∃ k, W.heap.size = k := ⟨_, rfl⟩
    rw [hkr] at HM ⊢
    clear hkr
    refine (works_any W _ hT HM.out.extTo).mono ?_
    rintro e w3 ⟨rfl, hE2⟩
    replace HM := Lib.hid (HM.out.ext hE2)
    clear hE2
    have fM := HM.out.fa
    go_wp2_with fail
    all_goals clear fM
    refine nxt HM fun w4 M => ?_
    clear HM; have HM := M; clear M
    refine leaves_marks [] _ (by simp) (by simp) ?_
    intro w' hk
    have hE' : Ext w4 w' := hk.mono fun k _ h => by simp at h
    obtain ⟨Ahb, hb⟩ := HM.out.get (r := cellsR kr 4 [.bool true]) (by with_reducible repeat first | exact ph | apply pt)
    have q0 := (hb.2.ext hE').reads.1
    exact ⟨.bool true, by simp [results, Tryz.results8, go_sem, q0], rfl, HM.out.extTo.ext hE'⟩
  have h2 : ¬ (600 : Int) < b.length := by omega
  have HL8 := Lib.hid h8
  have HL6 := Lib.hid h6
  clear h6 h8
  have fM := HM.out.fa
  go_wp2_with fail
  all_goals clear fM
  refine nxt HM fun w1 M => ?_
  clear HM; have HM := M; clear M
  obtain ⟨kr, hkr⟩ : ∃ k, W.heap.size = k := ⟨_, rfl⟩
  rw [hkr] at HM ⊢
  clear hkr h1 h2
  refine (fread_any W w1 hT HM.out.extTo _ b (HB.out.ext HM.out.extTo) (fun k hk => Nat.lt_of_lt_of_le hk HM.out.extTo.size) (by have := HL6.out; omega)).mono ?_
  rintro e w2 ⟨rfl, hE2⟩
  have hraw := readL_raw b
  have hnb := readL_n b
  have hok := read_ok b
  obtain ⟨⟨s, n, no⟩, hz⟩ : ∃ z, readL b = z := ⟨_, rfl⟩
  rw [hz] at hraw hnb hok ⊢
  dsimp only at hraw hnb hok ⊢
  have HOK := Lib.hid hok
  have HRAW := Lib.hid hraw
  have HNB := Lib.hid hnb
  replace HM := Lib.hid (HM.out.ext hE2)
  clear hE2 hz hraw hnb hok
  unfold Sd.v Sd.cells
  have fM := HM.out.fa
  go_upto_region 4 with fail
  clear fM
  refine nxt HM fun w3 M => ?_
  clear HM; have HM := M; clear M
  obtain ⟨k5, hk5⟩ : ∃ k, w2.heap.size = k := ⟨_, rfl⟩
  rw [hk5] at HM ⊢
  clear hk5
  go_cut [39] from 33 to 39 (fun x wx => ∃ q : Bool, x = .bool q ∧ Hid (q = true → no = 0 ∧ 0 < n) ∧ w3 = wx)
  case first =>
    by_cases h1 : no = 0
    · have H1 := Lib.hid h1
      have d1 : (no == 0) = true := by simpa using h1
      clear h1
      by_cases h2 : 0 < n
      · have H2 := Lib.hid h2
        have d2 : (0 : Int) < (n : Int) := by omega
        go_wp2_with fail
        refine (num_any _ _).mono ?_
        rintro r wq ⟨rfl, hwq⟩
        rw [hwq]
        clear hwq wq
        go_wp2_with fail
        go_meet
        case rel => exact ⟨true, by first | rfl | simp [h2], Lib.hid fun _ => ⟨H1.out, H2.out⟩, rfl⟩
      · have d2 : ¬ (0 : Int) < (n : Int) := by omega
        go_wp2_with fail
        refine (num_any _ _).mono ?_
        rintro r wq ⟨rfl, hwq⟩
        rw [hwq]
        clear hwq wq
        go_wp2_with fail
        go_meet
        case rel => exact ⟨false, by first | rfl | simp [h2], Lib.hid (fun h => by cases h), rfl⟩
    · have d1 : (no == 0) = false := by simpa using h1
      clear h1
      go_wp2_with fail
      refine (num_any _ _).mono ?_
      rintro r wq ⟨rfl, hwq⟩
      rw [hwq]
      clear hwq wq
      go_wp2_with fail
      go_meet
      case rel => exact ⟨false, rfl, Lib.hid (fun h => by cases h), rfl⟩
  obtain ⟨q, rfl, HQ, rfl⟩ := hcut
  go_upto_if 39 with fail
  go_cut [] from 39 to 62 (fun wx => Hid (Mem NoB W wx [cellsR kr 4 [.bool false]]))
  case first =>
    cases q
    · go_wp2_with fail
      go_meet
      case rel => exact Lib.hid (Mem.sub HM.out (by repeat first | exact Sub.nil | refine Sub.cons (by with_reducible repeat first | exact ph | apply pt) ?_))
    · obtain ⟨h1, h2⟩ := HQ.out rfl
      obtain ⟨hsb, hfr⟩ := HRAW.out h1 (by omega)
      have HSB := Lib.hid hsb
      have HFR := Lib.hid hfr
      have HN0 := Lib.hid h2
      clear h1 h2 hsb hfr
      have fM := HM.out.fa
      go_wp2_with fail
      all_goals clear fM
      refine (raw_ok W w3 hT HM.out.extTo s HOK.out HSB.out).mono ?_
      rintro e w5 ⟨v, rfl, hU⟩
      obtain ⟨hb3, hE2⟩ := hU.byt
      rw [HFR.out] at hb3
      have HB3 := Lib.hid hb3
      obtain ⟨fl, hfl⟩ : ∃ x, b.take n = x := ⟨_, rfl⟩
      rw [hfl] at HB3
      obtain ⟨a3, c3, rfl⟩ := HB3.out.len
      replace HM := Lib.hid (HM.out.ext hE2)
      clear hE2 hU hb3
      have fM := HM.out.fa
      go_wp2_with fail
      all_goals clear fM
      have hcv : ∀ y : ExtW w5, (convert 30 9 (.slice a3 fl.length c3)).run Tryz.prog y.w = .ok (.string (bs fl)) y.w := fun y => (HB3.out.ext y.h).str
      have hpart := HB.out.part 0 n (Nat.zero_le _) HNB.out
      have hsl := fun W => slice_h W ab b.length cb n (Nat.le_trans HNB.out HB.out.cap)
      rw [List.drop_zero, hfl] at hpart
      obtain ⟨a4, c4, he4⟩ := hpart.len
      rw [he4] at hpart hsl
      have HP4 := Lib.hid (hpart.ext HM.out.extTo)
      have hcv2 : ∀ y : ExtW w5, (convert 30 9 (.slice a4 fl.length c4)).run Tryz.prog y.w = .ok (.string (bs fl)) y.w := fun y => (HP4.out.ext y.h).str
      have hgt : decide ((b.length : Int) < (n : Int)) = false := by have := HNB.out; simp; omega
      have hgt2 : decide (b.length < n) = false := by have := HNB.out; simp; omega
      clear hpart he4 hfl
      have fM := HM.out.fa
      refine wp_region_noPanic ?_
      have hE0 : Keeps NoB w5 w5.drew := (Keeps.refl _ _).drew
      refine wp_region_plan [(0, 0), (2, 1), (0, 2), (0, 3), (0, 4), (0, 5), (0, 6), (0, 7), (0, 8), (0, 9), (0, 10), (1, 11), (0, 12), (0, 13), (0, 14), (1, 15), (0, 16), (0, 17)] [11, 15] [1] [] (ClsE w5) (by kernel_rfl) (by kernel_rfl) (plan3 [0, 1, 3, 7, 15, 15, 47, 127, 255, 511, 1023, 2047, 1023, 1023, 13311, 29695, 65535, 131071] (by kernel_rfl) rfl (by kernel_rfl)) rfl rfl (ClsE.of hE0) (fun _ _ _ _ _ h => h) ?_; simp only [planL, nL]
      refine pM _ rfl rfl ?_; simp only [nP, nE]
      refine plan_does rfl (fun K hK => ?_)
      go_wp2_with fail
      refine (num_any _ _).mono ?_
      rintro r wq ⟨rfl, hwq⟩
      rw [hwq]
      clear hwq wq
      refine hK _ _ ⟨ClsE.of (by assumption), ?_⟩; clear hK K; try simp only [nP]
      refine pR (v := ?_) rfl (fun W => ?_) ?_; rotate_left; (go_simp <;> with_reducible rfl); simp only [nP]
      refine pM _ rfl rfl ?_; simp only [nP, nE]
      iterate 2 ((first | (refine plan_skip rfl ?_; simp only [nP]) | (refine pM _ rfl rfl ?_; simp only [nP, nE])))
      iterate 2 ((first | (refine plan_skip rfl ?_; simp only [nP]) | (refine pR (v := ?_) rfl (fun W => ?_) ?_; rotate_left; (go_simp <;> with_reducible rfl); simp only [nP])))
      refine pR (v := ?_) rfl (fun W => ?_) ?_; rotate_left; (go_simp <;> with_reducible rfl); simp only [nP]
      refine pM _ rfl rfl ?_; simp only [nP, nE]
      (first | (refine plan_skip rfl ?_; simp only [nP]) | (refine pM _ rfl rfl ?_; simp only [nP, nE]))
      (first | (refine plan_skip rfl ?_; simp only [nP]) | (refine pL (v := ?_) rfl (fun W => ?_) ?_; rotate_left; (go_simp <;> with_reducible rfl); simp only [nP]))
      iterate 2 ((first | (refine plan_skip rfl ?_; simp only [nP]) | (refine pM _ rfl rfl ?_; simp only [nP, nE])))
      (first | (refine plan_skip rfl ?_; simp only [nP]) | (refine pR (v := ?_) rfl (fun W => ?_) ?_; rotate_left; (go_simp <;> with_reducible rfl); simp only [nP]))
      (first | (refine plan_skip rfl ?_; simp only [nP]) | (refine pL (v := ?_) rfl (fun W => ?_) ?_; rotate_left; (go_simp <;> with_reducible rfl); simp only [nP]))
      (first | (refine plan_skip rfl ?_; simp only [nP]) | (refine pR (v := ?_) rfl (fun W => ?_) ?_; rotate_left; (go_simp <;> with_reducible rfl); simp only [nP]))
      refine pR (v := ?_) rfl (fun W => ?_) ?_; rotate_left; (go_simp <;> with_reducible rfl); simp only [nP]
      refine plan_nil ?_; simp only [tailL, List.filterMap_nil]
      go_wp2_with fail
      refine NoPanic.ok ?_
      clear hcv hcv2 hsl hgt hgt2 hE0
      go_wp2_with fail
      clear fM
      go_meet
      case rel => exact Lib.hid (Mem.sub HM.out.to (by repeat first | exact Sub.nil | refine Sub.cons (by with_reducible repeat first | exact ph | apply pt) ?_))
  obtain ⟨wk, hwk⟩ : ∃ x, x = wc := ⟨_, rfl⟩
  subst hwk
  clear HM HRAW HNB HOK HQ
  have HM := hcut
  clear hcut
  have fM := HM.out.fa
  go_wp2_with fail
  all_goals clear fM
  refine nxt HM fun w8 M => ?_
  clear HM; have HM := M; clear M
  obtain ⟨k10, hk10⟩ : ∃ k, wk.heap.size = k := ⟨_, rfl⟩
  obtain ⟨k11, hk11⟩ : ∃ k, wk.heap.size + 1 = k := ⟨_, rfl⟩
  rw [hk11, hk10] at HM ⊢
  clear hk10 hk11
  replace HM := Lib.hid ((HM.out.nilRow (E := sdE)).bytNil)
  go_loopw [12] (fun s12 wr => ∃ (i : Nat) (dn : List Sd) (all : List UInt8) (a1 : Option Addr) (c1 : Nat) (a2 : Option Addr) (c2 : Nat), s12 = .int .i64 i ∧ i ≤ ls.length ∧ Hid (dn.length ≤ i ∧ (∀ s ∈ dn, sdB s = true) ∧ all = rawsL dn) ∧
    Hid (Mem NoB W wr [cellsR k10 30 [.slice a1 all.length c1], bytR (.slice a1 all.length c1) all, cellsR k11 57 [.slice a2 dn.length c2], rowR sdE (.slice a2 dn.length c2) dn, cellsR kr 4 [.bool false]])) (fun s12 _ => ls.length - (intOf s12).toNat)
  case atStart =>
    have hm0 : Mem NoB W w8 [cellsR k10 30 [.slice none 0 0], bytR (.slice none 0 0) [], cellsR k11 57 [.slice none 0 0], rowR sdE (.slice none 0 0) [], cellsR kr 4 [.bool false]] := Mem.sub HM.out (by repeat first | exact Sub.nil | refine Sub.cons (by with_reducible repeat first | exact ph | apply pt) ?_)
    exact ⟨0, [], [], none, 0, none, 0, rfl, Nat.zero_le _, Lib.hid ⟨Nat.zero_le _, fun s h => (by cases h), rfl⟩, Lib.hid hm0⟩
  case round =>
    clear HM
    obtain ⟨i, dn, all, a1, c1, a2, c2, rfl, hi, HD, HM⟩ := hrel
    have hl8 : (ls.length : Int) ≤ 8 := by have := HL8.out; omega
    by_cases hlt : i < ls.length
    · have g1 : (i : Int) < ls.length := by omega
      have g2 : ¬ (i : Int) < 0 := by omega
      obtain ⟨g, o, rfl, -, hg, hok, hik, hce⟩ := HSD.out.at i hlt
      obtain ⟨y, hy⟩ : ∃ y, ls[i] = y := ⟨_, rfl⟩
      rw [hy] at hok hik hce
      have HG := Lib.hid hg
      have HOK := Lib.hid hok
      have HIK := Lib.hid hik
      have HCE := Lib.hid hce
      clear hg hok hik hce hy
      have hre := fun j (hj : j < 11) => (HM.out.extTo.reads.1 g (o + i * 11 + j) HG.out).trans (HCE.out j hj)
      have f0 := hre 0 (by decide)
      have f1 := hre 1 (by decide)
      have f2 := hre 2 (by decide)
      have f3 := hre 3 (by decide)
      have f4 := hre 4 (by decide)
      have f5 := hre 5 (by decide)
      have f6 := hre 6 (by decide)
      have f7 := hre 7 (by decide)
      have f8 := hre 8 (by decide)
      have f9 := hre 9 (by decide)
      have f10 := hre 10 (by decide)
      clear hre
      simp only [Sd.cells, Nat.add_zero, List.getElem?_cons_zero, List.getElem?_cons_succ] at f0 f1 f2 f3 f4 f5 f6 f7 f8 f9 f10
      go_wp2_with fail
      clear f0 f1 f2 f3 f4 f5 f6 f7 f8 f9 f10
      refine (lawLong_any wr y).mono ?_
      rintro e w2 ⟨rfl, hE2⟩
      replace HM := Lib.hid (HM.out.ext hE2)
      clear hE2
      cases hlo : longB y
      case true =>
        clear hlo
        have fM := HM.out.fa
        go_wp2_with fail
        all_goals clear fM
        refine (works_any W _ hT HM.out.extTo).mono ?_
        rintro e w3 ⟨rfl, hE2⟩
        replace HM := Lib.hid (HM.out.ext hE2)
        clear hE2
        have fM := HM.out.fa
        go_wp2_with fail
        all_goals clear fM
        refine nxt HM fun w4 M => ?_
        clear HM; have HM := M; clear M
        refine leaves_marks [] _ (by simp) (by simp) ?_
        intro w' hk
        have hE' : Ext w4 w' := hk.mono fun k _ h => by simp at h
        obtain ⟨Ahb, hb⟩ := HM.out.get (r := cellsR kr 4 [.bool true]) (by with_reducible repeat first | exact ph | apply pt)
        have q0 := (hb.2.ext hE').reads.1
        exact ⟨.bool true, by simp [results, Tryz.results8, go_sem, q0], rfl, HM.out.extTo.ext hE'⟩
      clear hlo
      have hre := fun j (hj : j < 11) => (HM.out.extTo.reads.1 g (o + i * 11 + j) HG.out).trans (HCE.out j hj)
      have f0 := hre 0 (by decide)
      have f1 := hre 1 (by decide)
      have f2 := hre 2 (by decide)
      have f3 := hre 3 (by decide)
      have f4 := hre 4 (by decide)
      have f5 := hre 5 (by decide)
      have f6 := hre 6 (by decide)
      have f7 := hre 7 (by decide)
      have f8 := hre 8 (by decide)
      have f9 := hre 9 (by decide)
      have f10 := hre 10 (by decide)
      clear hre
      simp only [Sd.cells, Nat.add_zero, List.getElem?_cons_zero, List.getElem?_cons_succ] at f0 f1 f2 f3 f4 f5 f6 f7 f8 f9 f10
      go_wp2_with fail
      clear f0 f1 f2 f3 f4 f5 f6 f7 f8 f9 f10
      cases hsb : sdB y
      case false =>
        refine (raw_bad W w2 hT HM.out.extTo y HOK.out HIK.out hsb).mono ?_
        rintro e w3 ⟨rfl, hE2⟩
        replace HM := Lib.hid (HM.out.ext hE2)
        clear hE2 hsb
        have fM := HM.out.fa
        go_wp2_with fail
        all_goals clear fM
        refine (num_any _ _).mono ?_
        rintro r wq ⟨rfl, hwq⟩
        rw [hwq]
        clear hwq wq
        have fM := HM.out.fa
        go_wp2_with fail
        all_goals clear fM
        go_roundw
        case rel => exact ⟨i + 1, dn, all, a1, c1, a2, c2, by go_num, by omega, Lib.hid ⟨Nat.le_succ_of_le HD.out.1, HD.out.2⟩, HM⟩
        case measure => simp [intOf]; omega
      have HSB := Lib.hid hsb
      refine (raw_ok W w2 hT HM.out.extTo y HOK.out hsb).mono ?_
      rintro e w3 ⟨v3, rfl, hU⟩
      obtain ⟨hb3, hE3⟩ := hU.byt
      obtain ⟨fl, hfl⟩ : ∃ x, frameL (bodyL y) = x := ⟨_, rfl⟩
      have HFL := Lib.hid (show frameL (bodyL y) = fl ∧ fl.length ≤ 484 from ⟨hfl, by rw [← hfl]; exact frame_len (body_len y hsb)⟩)
      rw [hfl] at hb3
      obtain ⟨a3, c3, rfl⟩ := hb3.len
      have HB3' := Lib.hid hb3
      replace HM := Lib.hid (HM.out.ext hE3)
      clear hsb hU hb3 hE3 hfl
      have fM := HM.out.fa
      go_wp2_with fail
      all_goals clear fM
      refine (num_any _ _).mono ?_
      rintro r wq ⟨rfl, hwq⟩
      rw [hwq]
      clear hwq wq
      have fM := HM.out.fa
      go_upto_region 17 with fail
      clear fM
      have HB3 := HB3'
      have HAL := Lib.hid (show all.length ≤ 3872 by have h9 := rawsL_len dn HD.out.2.1; rw [← HD.out.2.2] at h9; have := HD.out.1; omega)
      obtain ⟨S, hS0, hs10, hs11, -⟩ := HM.out.apart2 (r := bytR (.slice a1 all.length c1) all) (b1 := k10) (b2 := k11) (by with_reducible repeat first | exact ph | apply pt) (by with_reducible repeat first | exact ph | apply pt) (by with_reducible repeat first | exact ph | apply pt)
      obtain ⟨A0, hA0, hI0, -⟩ := (HM.out.pick (r := bytR (.slice a1 all.length c1) all) (by with_reducible repeat first | exact ph | apply pt)).stepIn
      have hsg : ¬ S g := fun h => (hI0.2 g ((hA0.1 g).2 ((hS0.1 g).1 h))).elim id (fun h => by have h9 : g < W.heap.size := HG.out; omega)
      have hg3 : g < w3.heap.size := Nat.lt_of_lt_of_le HG.out HM.out.extTo.size
      have HS0 := Lib.hid hS0
      clear hA0 hI0 hS0
      clear A0
      have hre := fun j (hj : j < 11) => (HM.out.extTo.reads.1 g (o + i * 11 + j) HG.out).trans (HCE.out j hj)
      have f0 := hre 0 (by decide)
      have f1 := hre 1 (by decide)
      have f2 := hre 2 (by decide)
      have f3 := hre 3 (by decide)
      have f4 := hre 4 (by decide)
      have f5 := hre 5 (by decide)
      have f6 := hre 6 (by decide)
      have f7 := hre 7 (by decide)
      have f8 := hre 8 (by decide)
      have f9 := hre 9 (by decide)
      have f10 := hre 10 (by decide)
      clear hre
      simp only [Sd.cells, Nat.add_zero, List.getElem?_cons_zero, List.getElem?_cons_succ] at f0 f1 f2 f3 f4 f5 f6 f7 f8 f9 f10
      have fM := HM.out.fa
      refine wp_region_noPanic ?_
      have hE0 : Keeps (S) w3 w3.drew := (Keeps.refl _ _).drew
      refine wp_region_forks [0, 3, 7] [2, 8, 9, 10, 11] (ClsK (S) w3) (by kernel_rfl) ?_
      refine any_seg (L := #[true, true, false, true, true, true, true, true, false, false, false, false]) [(1, 0), (0, 1), (1, 3), (0, 4), (0, 5), (0, 6), (1, 7)] 5 (by kernel_rfl) (fun _ _ _ _ _ h => h) (by kernel_rfl) (by kernel_rfl) rfl rfl (ClsK.of (by repeat (first | assumption | exact Keeps.refl _ _ | refine Keeps.alloc ?_ _ | refine Keeps.setOne ?_ _ _ | refine Keeps.setCell ?_ _ _ (.inl (by first | rfl | exact .inl rfl | exact .inr rfl | omega)) | refine Keeps.drew ?_))) ?_; simp only [planL, nL]
      refine pK (v := ?_) rfl (fun W => ?_) ?_; rotate_left; (go_simp <;> with_reducible rfl); simp only [nP]
      refine pM _ rfl rfl ?_; simp only [nP, nE]
      refine pK (v := ?_) rfl (fun W => ?_) ?_; rotate_left; (go_simp <;> with_reducible rfl); simp only [nP]
      iterate 2 (refine pM _ rfl rfl ?_; simp only [nP, nE])
      refine pR (v := ?_) rfl (fun W => ?_) ?_; rotate_left; (go_simp <;> with_reducible rfl); simp only [nP]
      refine pK (v := ?_) rfl (fun W => ?_) ?_; rotate_left; (go_simp <;> with_reducible rfl); simp only [nP]
      refine plan_nil ?_
      refine any_fork 2 8 (by kernel_rfl) (by kernel_rfl) rfl rfl rfl rfl (fun K hK => ?_) (fun K hK => ?_)
      · skip
        refine Mem.oper (wr := w3) HM.out.to (by repeat (first | assumption | exact Keeps.refl _ _ | with_reducible apply Keeps.drew | with_reducible apply Keeps.alloc)) fun w5 M hE5 => ?_
        replace HM := Lib.hid M
        clear M
        obtain ⟨A5, hA5, hS5⟩ := (HM.out.pick (r := bytR (.slice a1 all.length c1) all) (by with_reducible repeat first | exact ph | apply pt)).step
        obtain ⟨v6, w6, hr, hm6⟩ := Mem.bytAdd 30 (Mem.start hA5) _ fl (HB3.out.ext hE5) (by have := HAL.out; have := HFL.out.2; omega)
        have hK6 : Keeps S w3 w6 := (Ext.keeps hE5).then hm6.keepsTo fun j _ h => (HS0.out.1 j).2 ((hA5.1 j).1 h)
        obtain ⟨all2, hall2⟩ : ∃ x, all ++ fl = x := ⟨_, rfl⟩
        have HA2 := Lib.hid hall2
        rw [hall2] at hm6
        replace HM := Lib.hid (hS5 _ _ hm6.upd)
        obtain ⟨a6, c6, rfl⟩ := HM.out.fact (fun A h => bytR.len h)
        refine oper_append_ran _ _ hr rfl rfl rfl ?_
        clear hr hm6 hS5 hA5 hE5 hall2
        clear A5
        refine hK _ _ ⟨ClsK.of (by assumption), ?_⟩; clear hK K; try simp only [nP]
        refine any_end [(2, 8)] [9, 10, 11] (by kernel_rfl) (fun _ _ _ _ _ h => h) (by kernel_rfl) (by kernel_rfl) rfl rfl (ClsK.of (by repeat (first | assumption | exact Keeps.refl _ _ | refine Keeps.alloc ?_ _ | refine Keeps.setOne ?_ _ _ | refine Keeps.setCell ?_ _ _ (.inl (by first | rfl | exact .inl rfl | exact .inr rfl | omega)) | refine Keeps.drew ?_))) ?_; simp only [planL, nL]
        refine plan_does rfl (fun K hK => ?_)
        go_wp2_with fail
        refine ⟨ClsK.of (by repeat (first | assumption | exact Keeps.refl _ _ | refine Keeps.alloc ?_ _ | refine Keeps.setOne ?_ _ _ | refine Keeps.setCell ?_ _ _ (.inl (by first | rfl | exact .inl rfl | exact .inr rfl | omega)) | refine Keeps.drew ?_)), ?_⟩; try simp only [nP]
        refine plan_nil ?_; simp only [tailL, List.filterMap_cons, List.filterMap_nil, nL]; change wpList _ _ _ (_ :: _ :: _ :: []) _ _
        clear fM
        go_wp2_with (at_builtin; refine standing ?_)
        refine nxt HM fun w7 M => ?_
        clear HM; have HM := M; clear M
        obtain ⟨Ahb, hb⟩ := HM.out.get (r := cellsR _ 27 [.int .i64 y.kind, .int .i64 y.member, .int .i64 y.number, .int .i64 y.index, .bool y.is, .string (bs y.text), .string (bs y.token), .int .i64 y.e.kind, .int .i64 y.e.member, .int .i64 y.e.number, .string (bs y.e.text)]) (by with_reducible repeat first | exact ph | apply pt)
        obtain ⟨v8, w8, hr, hm8⟩ := add_sd 57 (HM.out.pick (r := rowR sdE (.slice a2 dn.length c2) dn) (by with_reducible repeat first | exact ph | apply pt)) _ 1 y hb.2.reads.1 (by have := HD.out.1; omega)
        obtain ⟨dn2, hdn2⟩ : ∃ x, dn ++ [y] = x := ⟨_, rfl⟩
        have HD2 := Lib.hid hdn2
        rw [hdn2] at hm8
        obtain ⟨a8, c8, rfl⟩ := hm8.fact (fun A h => row_len h)
        replace HM := Lib.hid hm8
        refine ⟨?_⟩
        refine wpList_append_ran rfl _ _ hr rfl rfl rfl ?_
        clear hr hm8 hb hdn2
        clear Ahb
        have fM := HM.out.fa
        go_wp2_with fail
        all_goals clear fM
        refine NoPanic.ok ?_
        clear f0 f1 f2 f3 f4 f5 f6 f7 f8 f9 f10
        have fM := HM.out.fa
        go_wp2_with fail
        all_goals clear fM
        go_roundw
        case rel => exact ⟨i + 1, dn2, all2, a6, c6, a8, c8, by go_num, by omega, Lib.hid ⟨by rw [← HD2.out, List.length_append, List.length_singleton]; have := HD.out.1; omega, fun s hs => (List.mem_append.1 (by rw [HD2.out]; exact hs)).elim (HD.out.2.1 s) (fun h => by rw [List.mem_singleton.1 h]; exact HSB.out), by rw [← HA2.out, ← HD2.out, rawsL_snoc, HD.out.2.2, HFL.out.1]⟩, Lib.hid (Mem.sub HM.out.to (by repeat first | exact Sub.nil | refine Sub.cons (by with_reducible repeat first | exact ph | apply pt) ?_))⟩
        case measure => simp [intOf]; omega
      · skip
        go_wp2_with fail
        refine ⟨ClsK.of (by repeat (first | assumption | exact Keeps.refl _ _ | refine Keeps.alloc ?_ _ | refine Keeps.setOne ?_ _ _ | refine Keeps.setCell ?_ _ _ (.inl (by first | rfl | exact .inl rfl | exact .inr rfl | omega)) | refine Keeps.drew ?_)), ?_⟩; try simp only [nP]
        refine any_end [(2, 2)] [9, 10, 11] (by kernel_rfl) (fun _ _ _ _ _ h => h) (by kernel_rfl) (by kernel_rfl) rfl rfl (ClsK.of (by repeat (first | assumption | exact Keeps.refl _ _ | refine Keeps.alloc ?_ _ | refine Keeps.setOne ?_ _ _ | refine Keeps.setCell ?_ _ _ (.inl (by first | rfl | exact .inl rfl | exact .inr rfl | omega)) | refine Keeps.drew ?_))) ?_; simp only [planL, nL]
        refine plan_does rfl (fun K hK => ?_)
        refine Mem.oper (wr := w3) HM.out.to (by repeat (first | assumption | exact Keeps.refl _ _ | with_reducible apply Keeps.drew | with_reducible apply Keeps.alloc)) fun w5 M hE5 => ?_
        replace HM := Lib.hid M
        clear M
        obtain ⟨A5, hA5, hS5⟩ := (HM.out.pick (r := bytR (.slice a1 all.length c1) all) (by with_reducible repeat first | exact ph | apply pt)).step
        obtain ⟨v6, w6, hr, hm6⟩ := Mem.bytAdd 30 (Mem.start hA5) _ fl (HB3.out.ext hE5) (by have := HAL.out; have := HFL.out.2; omega)
        have hK6 : Keeps S w3 w6 := (Ext.keeps hE5).then hm6.keepsTo fun j _ h => (HS0.out.1 j).2 ((hA5.1 j).1 h)
        obtain ⟨all2, hall2⟩ : ∃ x, all ++ fl = x := ⟨_, rfl⟩
        have HA2 := Lib.hid hall2
        rw [hall2] at hm6
        replace HM := Lib.hid (hS5 _ _ hm6.upd)
        obtain ⟨a6, c6, rfl⟩ := HM.out.fact (fun A h => bytR.len h)
        refine oper_append_ran _ _ hr rfl rfl rfl ?_
        clear hr hm6 hS5 hA5 hE5 hall2
        clear A5
        refine hK _ _ ⟨ClsK.of (by assumption), ?_⟩; clear hK K; try simp only [nP]
        refine plan_nil ?_; simp only [tailL, List.filterMap_cons, List.filterMap_nil, nL]; change wpList _ _ _ (_ :: _ :: _ :: []) _ _
        clear fM
        go_wp2_with (at_builtin; refine standing ?_)
        refine nxt HM fun w7 M => ?_
        clear HM; have HM := M; clear M
        obtain ⟨Ahb, hb⟩ := HM.out.get (r := cellsR _ 27 [.int .i64 y.kind, .int .i64 y.member, .int .i64 y.number, .int .i64 y.index, .bool y.is, .string (bs y.text), .string (bs y.token), .int .i64 y.e.kind, .int .i64 y.e.member, .int .i64 y.e.number, .string (bs y.e.text)]) (by with_reducible repeat first | exact ph | apply pt)
        obtain ⟨v8, w8, hr, hm8⟩ := add_sd 57 (HM.out.pick (r := rowR sdE (.slice a2 dn.length c2) dn) (by with_reducible repeat first | exact ph | apply pt)) _ 1 y hb.2.reads.1 (by have := HD.out.1; omega)
        obtain ⟨dn2, hdn2⟩ : ∃ x, dn ++ [y] = x := ⟨_, rfl⟩
        have HD2 := Lib.hid hdn2
        rw [hdn2] at hm8
        obtain ⟨a8, c8, rfl⟩ := hm8.fact (fun A h => row_len h)
        replace HM := Lib.hid hm8
        refine ⟨?_⟩
        refine wpList_append_ran rfl _ _ hr rfl rfl rfl ?_
        clear hr hm8 hb hdn2
        clear Ahb
        have fM := HM.out.fa
        go_wp2_with fail
        all_goals clear fM
        refine NoPanic.ok ?_
        clear f0 f1 f2 f3 f4 f5 f6 f7 f8 f9 f10
        have fM := HM.out.fa
        go_wp2_with fail
        all_goals clear fM
        go_roundw
        case rel => exact ⟨i + 1, dn2, all2, a6, c6, a8, c8, by go_num, by omega, Lib.hid ⟨by rw [← HD2.out, List.length_append, List.length_singleton]; have := HD.out.1; omega, fun s hs => (List.mem_append.1 (by rw [HD2.out]; exact hs)).elim (HD.out.2.1 s) (fun h => by rw [List.mem_singleton.1 h]; exact HSB.out), by rw [← HA2.out, ← HD2.out, rawsL_snoc, HD.out.2.2, HFL.out.1]⟩, Lib.hid (Mem.sub HM.out.to (by repeat first | exact Sub.nil | refine Sub.cons (by with_reducible repeat first | exact ph | apply pt) ?_))⟩
        case measure => simp [intOf]; omega
    · have g1 : ¬ (i : Int) < ls.length := by omega
      have HAL := Lib.hid (show all.length ≤ 3872 by have h9 := rawsL_len dn HD.out.2.1; rw [← HD.out.2.2] at h9; have := HD.out.1; omega)
      have HXS := Lib.hid (show allL all = endsL 0 dn by rw [HD.out.2.2]; exact allL_raws dn HD.out.2.1)
      have fM := HM.out.fa
      go_wp2_with fail
      all_goals clear fM
      refine nxt HM fun w3 M => ?_
      clear HM; have HM := M; clear M
      obtain ⟨kn, hkn⟩ : ∃ k, wr.heap.size = k := ⟨_, rfl⟩
      rw [hkn] at HM ⊢
      clear hkn
      obtain ⟨A5, hb5, -⟩ := (HM.out.pick (r := bytR (.slice a1 all.length c1) all) (by with_reducible repeat first | exact ph | apply pt)).byt
      refine (all_any w3 a1 c1 all hb5 (by have := HAL.out; omega)).mono ?_
      rintro e w5 ⟨kb0, vb0, rfl, F2, -, u2, -⟩
      replace HM := Lib.hid (HM.out.ext u2)
      clear u2 hb5
      clear F2 A5
      have hnf := all_nil kb0
      have fM := HM.out.fa
      go_wp2_with fail
      all_goals clear fM
      clear hnf
      obtain ⟨A5, hb5, -⟩ := (HM.out.pick (r := bytR (.slice a1 all.length c1) all) (by with_reducible repeat first | exact ph | apply pt)).byt
      refine (all_any w5 a1 c1 all hb5 (by have := HAL.out; omega)).mono ?_
      rintro e w6 ⟨kb, vb, rfl, F2, u1, u2, u3⟩
      have hm2 := (HM.out.new (r := listR [cellsR kb 30 [vb], bytR vb all]) (G := F2) u2 u1 (fun k hk => (u3 k hk).elim (fun h => (noB _ h).elim) id)).unlist
      simp only [List.cons_append, List.nil_append] at hm2
      replace HM := Lib.hid ((hm2.pick (r := bytR vb all) (by with_reducible repeat first | exact ph | apply pt)).turn (r' := readR vb all) fun A h => ⟨bytR.bytes h, bytR.lt h⟩)
      clear hb5 u1 u2 u3 hm2
      clear F2 A5
      go_wp2_with fail
      obtain ⟨R1, hR1⟩ : ∃ R1 : Nat → Res, R1 = fun (k : Nat) => listR [cellsR kn 3 [.int .i64 (k : Int)], cellsR k10 30 [.slice a1 all.length c1], cellsR k11 57 [.slice a2 dn.length c2], rowR sdE (.slice a2 dn.length c2) dn] := ⟨_, rfl⟩
      have h1 := Mem.list' (L1 := [cellsR kn 3 [.int .i64 (0 : Int)], cellsR k10 30 [.slice a1 all.length c1], cellsR k11 57 [.slice a2 dn.length c2], rowR sdE (.slice a2 dn.length c2) dn]) (L := [readR vb all, cellsR kb 30 [vb], cellsR kr 4 [.bool false]]) (Mem.sub HM.out (by repeat first | exact Sub.nil | refine Sub.cons (by with_reducible repeat first | exact ph | apply pt) ?_))
      have h2 := h1.turn (r' := R1 0) fun A h => by rw [hR1]; exact h
      have h3 := Mem.list' (L1 := [cellsR kb 30 [vb], readR vb all]) (L := [R1 0, cellsR kr 4 [.bool false]]) (Mem.sub h2 (by repeat first | exact Sub.nil | refine Sub.cons (by with_reducible repeat first | exact ph | apply pt) ?_))
      obtain ⟨C, hC, hCI, hS⟩ := Mem.stepN (L1 := [listR [cellsR kb 30 [vb], readR vb all], R1 0]) (L := [cellsR kr 4 [.bool false]]) h3
      have hx0 := tabX_ok.step (show TabX NoB W from ⟨hT, noB _, noB _⟩) hCI.1 hCI.2
      have HS := Lib.hid hS
      have HE2 := Lib.hid hCI
      have HR1 := Lib.hid hR1
      clear h1 h2 h3 HM hS hR1 hCI
      have hit := (iter_all kb vb all (by have := HAL.out; omega)).wide (m := 8)
      rw [HXS.out] at hit
      refine (wpIn_wide (n := 9)).1 ?_
      refine wpIn_rangeR_break rfl (by omega) (gf := 51) (lb := #[.pointer (some ⟨kb, 0, none⟩)]) rfl trivial (enters_of Tryz.func51 (by kernel_rfl) rfl) saidV_ok tabX_ok hit (by rintro x v F W rfl; rfl) R1 (fun k => condR False (R1 k)) hC hx0 ?_ ?_
      · clear hC hit hx0
        intro k hk v F0 W2 _ hR hv hlt
        unfold SaidV at hv
        subst hv
        have hpk := List.getElem?_eq_getElem hk
        obtain ⟨⟨at1, y⟩, hp⟩ : ∃ p, (endsL 0 dn)[k] = p := ⟨_, rfl⟩
        rw [hp] at hpk ⊢
        obtain ⟨hdk, hlast⟩ := endsL_get 0 dn k _ hpk
        rw [endsL_len] at hk
        obtain ⟨hkd, hdk2⟩ := List.getElem?_eq_some_iff.1 hdk
        have HLA := Lib.hid hlast
        have HDK := Lib.hid hdk2
        clear hdk2
        rw [HR1.out] at hR
        have hm0 := (Mem.start hR).unlist
        simp only [List.cons_append, List.nil_append] at hm0
        have HM := Lib.hid hm0
        clear hR hm0 hp hpk hlast hdk
        unfold Sd.v Sd.cells
        dsimp only
        gi_wp2_with fail
        have hm := HM.out.to (w' := W2.alloc (Obj.cells #[.int .i64 y.kind, .int .i64 y.member, .int .i64 y.number, .int .i64 y.index, .bool y.is, .string (bs y.text), .string (bs y.token), .int .i64 y.e.kind, .int .i64 y.e.member, .int .i64 y.e.number, .string (bs y.e.text)] 27))
        refine ⟨_, hm.updAll, fun F1 W3 hK3 hR3 hv3 hlt3 => ?_⟩
        clear HM hm hv3 hK3
        obtain ⟨kx, hkx⟩ : ∃ k, W2.heap.size = k := ⟨_, rfl⟩
        rw [hkx] at hR3 ⊢
        have HM := Lib.hid (Mem.ofSep hR3)
        clear hR3 hkx
        obtain ⟨A9, h9⟩ := HM.out.get (r := rowR sdE (.slice a2 dn.length c2) dn) (by with_reducible repeat first | exact ph | apply pt)
        obtain ⟨g, o, cap, hva, hcap, -, hcells⟩ := row_cells h9 (by omega)
        cases hva
        have hce := hcells k hk
        have hdk := HDK.out
        rw [hdk] at hce
        have f0 := hce 0 (by decide)
        have f1 := hce 1 (by decide)
        have f2 := hce 2 (by decide)
        have f3 := hce 3 (by decide)
        have f4 := hce 4 (by decide)
        have f5 := hce 5 (by decide)
        have f6 := hce 6 (by decide)
        have f7 := hce 7 (by decide)
        have f8 := hce 8 (by decide)
        have f9 := hce 9 (by decide)
        have f10 := hce 10 (by decide)
        clear hce hcells h9 A9 hdk
        simp only [sdE, Sd.cells, Nat.add_zero, List.getElem?_cons_zero, List.getElem?_cons_succ] at f0 f1 f2 f3 f4 f5 f6 f7 f8 f9 f10
        have g0 : decide (dn.length ≤ k) = false := by simp; omega
        have g1 : (k : Int) < (dn.length : Int) := by omega
        have g2 : ¬ (k : Int) < 0 := by omega
        have hdl : (dn.length : Int) ≤ 8 := by have := HD.out.1; omega
        have hq1 := fun W => ne_sd y y W
        unfold Sd.v Sd.cells at hq1
        rw [decide_eq_true rfl] at hq1
        obtain ⟨m1, hm1⟩ : ∃ m1 : Nat, m1 + 1 = dn.length := ⟨dn.length - 1, by omega⟩
        have hw : IntKind.i64.wrap ((dn.length : Int) - 1) = (m1 : Int) := by
          rw [← hm1, Int.natCast_add]
          have : ((m1 : Int) + ((1 : Nat) : Int) - 1) = (m1 : Int) := by omega
          rw [this]
          exact IntWalk.i64_in _ (by omega)
        by_cases hla : k + 1 = dn.length
        · have d2 : ((k : Int) == (m1 : Int)) = true := by simp; omega
          have d1 : ((k : Int) == (dn.length : Int) - 1) = true := by simp; omega
          have hat : at1 = all.length := by have := HLA.out hla; rw [HD.out.2.2]; simpa using this
          subst hat
          clear hla hm1
          have fM := HM.out.fa
          gi_wp2_with fail
          have hE0 : Keeps NoB W3 W3.drew := (Keeps.refl _ _).drew
          refine wpIn_region_plan [(3, 0), (3, 1), (0, 2), (0, 3), (0, 4), (3, 5), (3, 6), (3, 7), (0, 8), (3, 9), (0, 10), (0, 11), (0, 12), (3, 13), (3, 14), (0, 15), (0, 16), (0, 17), (0, 18), (0, 19), (3, 20), (0, 21), (0, 22), (0, 23), (0, 24)] [] [] [] (ClsE W3) (by kernel_rfl) (by rintro ⟨_, _, h⟩; exact h) (by kernel_rfl) (by kernel_rfl) (plan3 [0, 0, 2, 7, 15, 31, 31, 31, 223, 479, 1023, 2047, 4095, 8191, 8191, 24575, 57343, 131071, 262143, 524287, 524287, 1572863, 4194303, 8388607, 16777215] (by kernel_rfl) rfl (by kernel_rfl)) rfl rfl (ClsE.of hE0) (fun _ _ _ d _ h => by cases d <;> exact h) ?_; simp only [planL, nL]
          iterate 2 (refine pX (v := ?_) rfl ?_ ?_; rotate_left; (go_simp <;> with_reducible rfl); simp only [nP])
          iterate 2 (refine pR (v := ?_) rfl (fun W => ?_) ?_; rotate_left; (go_simp <;> with_reducible rfl); simp only [nP])
          refine pM _ rfl rfl ?_; simp only [nP, nE]
          iterate 3 ((first | (refine plan_skip rfl ?_; simp only [nP]) | (refine pX (v := ?_) rfl ?_ ?_; rotate_left; (go_simp <;> with_reducible rfl); simp only [nP])))
          (first | (refine plan_skip rfl ?_; simp only [nP]) | (refine pR (v := ?_) rfl (fun W => ?_) ?_; rotate_left; (go_simp <;> with_reducible rfl); simp only [nP]))
          (first | (refine plan_skip rfl ?_; simp only [nP]) | (refine pX (v := ?_) rfl ?_ ?_; rotate_left; (go_simp <;> with_reducible rfl); simp only [nP]))
          (first | (refine plan_skip rfl ?_; simp only [nP]) | (refine pR (v := ?_) rfl (fun W => ?_) ?_; rotate_left; (go_simp <;> with_reducible rfl); simp only [nP]))
          refine pR (v := ?_) rfl (fun W => ?_) ?_; rotate_left; (go_simp <;> with_reducible rfl); simp only [nP]
          refine pM _ rfl rfl ?_; simp only [nP, nE]
          iterate 2 ((first | (refine plan_skip rfl ?_; simp only [nP]) | (refine pX (v := ?_) rfl ?_ ?_; rotate_left; (go_simp <;> with_reducible rfl); simp only [nP])))
          iterate 3 ((first | (refine plan_skip rfl ?_; simp only [nP]) | (refine pR (v := ?_) rfl (fun W => ?_) ?_; rotate_left; (go_simp <;> with_reducible rfl); simp only [nP])))
          iterate 2 ((first | (refine plan_skip rfl ?_; simp only [nP]) | (refine pM _ rfl rfl ?_; simp only [nP, nE])))
          (first | (refine plan_skip rfl ?_; simp only [nP]) | (refine pX (v := ?_) rfl ?_ ?_; rotate_left; (go_simp <;> with_reducible rfl); simp only [nP]))
          iterate 3 ((first | (refine plan_skip rfl ?_; simp only [nP]) | (refine pR (v := ?_) rfl (fun W => ?_) ?_; rotate_left; (go_simp <;> with_reducible rfl); simp only [nP])))
          refine pR (v := ?_) rfl (fun W => ?_) ?_; rotate_left; (go_simp <;> with_reducible rfl); simp only [nP]
          refine plan_nil ?_; simp only [tailL, List.filterMap_nil]
          go_wp2_with fail
          clear f0 f1 f2 f3 f4 f5 f6 f7 f8 f9 f10 hq1 hE0 hw
          gi_wp2_with fail
          clear fM
          show Upd F1 W3 _ (R1 (k + 1))
          refine nxt HM fun W9 M => ?_
          clear HM; have HM := M; clear M
          rw [show ((k : Int) + 1) = ((k + 1 : Nat) : Int) from rfl] at HM
          rw [HR1.out]
          exact (Mem.list' (L1 := [cellsR kn 3 [.int .i64 ((k + 1 : Nat) : Int)], cellsR k10 30 [.slice a1 all.length c1], cellsR k11 57 [.slice (some ⟨g, o, none⟩) dn.length c2], rowR sdE (.slice (some ⟨g, o, none⟩) dn.length c2) dn]) (L := []) (Mem.sub HM.out (by repeat first | exact Sub.nil | refine Sub.cons (by with_reducible repeat first | exact ph | apply pt) ?_))).upd
        · have d2 : ((k : Int) == (m1 : Int)) = false := by simp; omega
          have d1 : ((k : Int) == (dn.length : Int) - 1) = false := by simp; omega
          clear hla hm1
          have fM := HM.out.fa
          gi_wp2_with fail
          have hE0 : Keeps NoB W3 W3.drew := (Keeps.refl _ _).drew
          refine wpIn_region_plan [(3, 0), (3, 1), (0, 2), (0, 3), (0, 4), (3, 5), (3, 6), (3, 7), (0, 8), (3, 9), (0, 10), (0, 11), (0, 12), (3, 13), (3, 14), (0, 15), (0, 16), (0, 17), (0, 18), (0, 19), (3, 20), (0, 21), (0, 22), (0, 23), (0, 24)] [] [] [] (ClsE W3) (by kernel_rfl) (by rintro ⟨_, _, h⟩; exact h) (by kernel_rfl) (by kernel_rfl) (plan3 [0, 0, 2, 7, 15, 31, 31, 31, 223, 479, 1023, 2047, 4095, 8191, 8191, 24575, 57343, 131071, 262143, 524287, 524287, 1572863, 4194303, 8388607, 16777215] (by kernel_rfl) rfl (by kernel_rfl)) rfl rfl (ClsE.of hE0) (fun _ _ _ d _ h => by cases d <;> exact h) ?_; simp only [planL, nL]
          iterate 2 (refine pX (v := ?_) rfl ?_ ?_; rotate_left; (go_simp <;> with_reducible rfl); simp only [nP])
          iterate 2 (refine pR (v := ?_) rfl (fun W => ?_) ?_; rotate_left; (go_simp <;> with_reducible rfl); simp only [nP])
          refine pM _ rfl rfl ?_; simp only [nP, nE]
          iterate 3 ((first | (refine plan_skip rfl ?_; simp only [nP]) | (refine pX (v := ?_) rfl ?_ ?_; rotate_left; (go_simp <;> with_reducible rfl); simp only [nP])))
          (first | (refine plan_skip rfl ?_; simp only [nP]) | (refine pR (v := ?_) rfl (fun W => ?_) ?_; rotate_left; (go_simp <;> with_reducible rfl); simp only [nP]))
          (first | (refine plan_skip rfl ?_; simp only [nP]) | (refine pX (v := ?_) rfl ?_ ?_; rotate_left; (go_simp <;> with_reducible rfl); simp only [nP]))
          (first | (refine plan_skip rfl ?_; simp only [nP]) | (refine pR (v := ?_) rfl (fun W => ?_) ?_; rotate_left; (go_simp <;> with_reducible rfl); simp only [nP]))
          refine pR (v := ?_) rfl (fun W => ?_) ?_; rotate_left; (go_simp <;> with_reducible rfl); simp only [nP]
          refine pM _ rfl rfl ?_; simp only [nP, nE]
          iterate 2 ((first | (refine plan_skip rfl ?_; simp only [nP]) | (refine pX (v := ?_) rfl ?_ ?_; rotate_left; (go_simp <;> with_reducible rfl); simp only [nP])))
          iterate 3 ((first | (refine plan_skip rfl ?_; simp only [nP]) | (refine pR (v := ?_) rfl (fun W => ?_) ?_; rotate_left; (go_simp <;> with_reducible rfl); simp only [nP])))
          iterate 2 ((first | (refine plan_skip rfl ?_; simp only [nP]) | (refine pM _ rfl rfl ?_; simp only [nP, nE])))
          (first | (refine plan_skip rfl ?_; simp only [nP]) | (refine pX (v := ?_) rfl ?_ ?_; rotate_left; (go_simp <;> with_reducible rfl); simp only [nP]))
          iterate 3 ((first | (refine plan_skip rfl ?_; simp only [nP]) | (refine pR (v := ?_) rfl (fun W => ?_) ?_; rotate_left; (go_simp <;> with_reducible rfl); simp only [nP])))
          refine pR (v := ?_) rfl (fun W => ?_) ?_; rotate_left; (go_simp <;> with_reducible rfl); simp only [nP]
          refine plan_nil ?_; simp only [tailL, List.filterMap_nil]
          go_wp2_with fail
          clear f0 f1 f2 f3 f4 f5 f6 f7 f8 f9 f10 hq1 hE0 hw
          gi_wp2_with fail
          clear fM
          show Upd F1 W3 _ (R1 (k + 1))
          refine nxt HM fun W9 M => ?_
          clear HM; have HM := M; clear M
          rw [show ((k : Int) + 1) = ((k + 1 : Nat) : Int) from rfl] at HM
          rw [HR1.out]
          exact (Mem.list' (L1 := [cellsR kn 3 [.int .i64 ((k + 1 : Nat) : Int)], cellsR k10 30 [.slice a1 all.length c1], cellsR k11 57 [.slice (some ⟨g, o, none⟩) dn.length c2], rowR sdE (.slice (some ⟨g, o, none⟩) dn.length c2) dn]) (L := []) (Mem.sub HM.out (by repeat first | exact Sub.nil | refine Sub.cons (by with_reducible repeat first | exact ph | apply pt) ?_))).upd
      · clear hC hit hx0
        intro W3 r hr hU
        have hm := (HS.out _ _ hU).unall
        simp only [List.cons_append, List.nil_append] at hm
        have hq : Mem NoB W W3 [cellsR kn 3 [.int .i64 (dn.length : Int)], cellsR k11 57 [.slice a2 dn.length c2], markR w6.heap.size, cellsR kr 4 [.bool false]] := by
          rcases hr with rfl | ⟨k, hk, rfl⟩
          · have h1 := hm.pick (r := R1 (endsL 0 dn).length) (by with_reducible repeat first | exact ph | apply pt)
            rw [HR1.out, endsL_len] at h1
            have h2 := h1.unlist
            simp only [List.cons_append, List.nil_append] at h2
            exact Mem.sub h2 (by repeat first | exact Sub.nil | refine Sub.cons (by with_reducible repeat first | exact ph | apply pt) ?_)
          · exact ((hm.pick (r := condR False (R1 (k + 1))) (by with_reducible repeat first | exact ph | apply pt)).fact fun A h => h.1).elim
        have HM := Lib.hid hq
        clear hm hq hr hU
        obtain ⟨D0, hD0⟩ : ∃ k, w6.heap.size = k := ⟨_, rfl⟩
        rw [hD0] at HM ⊢
        clear hD0
        have d1 : ((dn.length : Int) == (dn.length : Int)) = true := by simp
        have fM := HM.out.fa
        go_wp2_with fail
        all_goals clear fM
        clear d1
        refine (works_any W W3 hT HM.out.extTo).mono ?_
        rintro e w7 ⟨rfl, hE3⟩
        replace HM := Lib.hid (HM.out.ext hE3)
        clear hE3
        have fM := HM.out.fa
        go_wp2_with fail
        all_goals clear fM
        refine nxt HM fun w20 M => ?_
        clear HM; have HM := M; clear M
        obtain ⟨hn, hmk, hun⟩ := Mem.marks [D0] (L := [cellsR kr 4 [.bool true]]) (Mem.sub HM.out (by repeat first | exact Sub.nil | refine Sub.cons (by with_reducible repeat first | exact ph | apply pt) ?_))
        refine leaves_marks [D0] _ hn hmk ?_
        intro w' hk
        have hm := hun w' hk
        obtain ⟨Ab, hb⟩ := hm.get (r := cellsR kr 4 [.bool true]) (by with_reducible repeat first | exact ph | apply pt)
        have q0 := hb.2.reads.1
        exact ⟨.bool true, by simp [results, Tryz.results8, go_sem, q0], rfl, hm.extTo⟩
end Go.Proofs.YtcfgnbbiljohjaaGreatDoor
end
